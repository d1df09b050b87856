/- NFC: the iterator over runs (order.runs); order.Sort. And more. -/
import Derived.Test.YtnbmfljhbpfilaaGreatDoorOw26
import Derived.Sort.LoopGhostIn
set_option linter.unusedSimpArgs false
set_option maxRecDepth 100000
set_option maxHeartbeats 8000000
set_option linter.unusedVariables false
namespace Go.Proofs.YtnbmfljhbpfilaaGreatDoor
section
open Go.RowKit Go.WideShapes

attribute [local go_sem] Oper.semAt_some

namespace Nf
theorem ahf{tl:List Int}{t:Nat}{x:Int}(h:tl[t]?=some x)(ht:t<(marks tl).length):0<cls x:=by
 unfold marks at ht
 induction tl generalizing t with
 | nil=>cases h
 | cons y tl ih=>
  rw[List.takeWhile_cons] at ht
  split at ht
  ·rename_i hy
   cases t with
   | zero=>cases h;exact of_decide_eq_true hy
   | succ t=>exact ih h (by simpa using ht)
  simp at ht
theorem ahg{tl:List Int}{x:Int}(h:tl[(marks tl).length]?=some x):¬0<cls x:=by
 unfold marks at h
 induction tl with
 | nil=>cases h
 | cons y tl ih=>
  rw[List.takeWhile_cons] at h
  split at h
  ·exact ih (by simpa using h)
  rename_i hy
  cases h;exact of_decide_eq_false (by simpa using hy)
theorem Mp(tl:List Int):(marks tl).length≤tl.length:=by
 unfold marks
 induction tl with
 | nil=>simp
 | cons y tl ih=>rw[List.takeWhile_cons];split<;>simp<;>omega
theorem ahe(tl:List Int):marks tl++tl.drop (marks tl).length=tl:=by
 unfold marks
 induction tl with
 | nil=>rfl
 | cons y tl ih=>rw[List.takeWhile_cons];split<;>simp[ih]
theorem VU(tl:List Int):tl.take (marks tl).length=marks tl:=by
 have h:=ahe tl;have h2:(marks tl++tl.drop (marks tl).length).take (marks tl).length=marks tl:=List.take_left' rfl;rwa[h] at h2
end Nf
structure Rn where
 A:Option Addr
 l:List Int
def Ca(x:Rn):Array Value:=#[.slice x.A x.l.length x.l.length]
def uD(h0 R:Nat)(W W':World):Prop:=W.heap.size≤W'.heap.size∧∀k,k<W.heap.size→(k<h0∨k=R)→W'.heap[k]?=W.heap[k]?
theorem uD.trans{h0 R:Nat}{X Y Z:World}(h:uD h0 R X Y)(k:uD h0 R Y Z):uD h0 R X Z:=⟨Nat.le_trans h.1 k.1,fun g hg hk=>(k.2 g (Nat.lt_of_lt_of_le hg h.1) hk).trans (h.2 g hg hk)⟩
theorem Reads.DN{w:World}{B n k:Nat}{gb off:Nat}{xs:List Value}(h:Reads w B 1 (some ⟨gb,off,none⟩) n xs)(hk:k≤n)(A:Option Addr)(hA:k<n→A=some ⟨gb,off+k,none⟩)(hB:0<n):Reads w B 1 A (n-k) (xs.drop k):=by
 refine⟨by rw[List.length_drop,h.1];omega,fun hn=>?_⟩;obtain⟨b,o,e,hb,hc⟩:=h.2 hB;cases e;refine⟨gb,off+k,hA (by omega),hb,fun j u hu=>?_⟩;rw[List.getElem?_drop] at hu;rw[Nat.add_assoc];exact hc _ _ hu
theorem Reads.Yh{w:World}{B n k:Nat}{A:Option Addr}{xs:List Value}(h:Reads w B 1 A n xs)(hk:k≤n):Reads w B 1 A k (xs.take k):=by
 refine⟨by rw[List.length_take,h.1];omega,fun hn=>?_⟩;obtain⟨b,o,e,hb,hc⟩:=h.2 (by omega);refine⟨b,o,e,hb,fun j u hu=>hc j u ?_⟩;rw[List.getElem?_take] at hu
 split at hu
 ·exact hu
 cases hu
theorem aku(n:Nat)(hn:1≤n)(R h0:Nat)(A0:Option Addr)(c0:Nat)(ls:List Int)(hs:ls.length≤1000000000)(W:World)(hR:h0≤R)(hc:ae W R 124 #[.slice A0 ls.length c0])(hc0:ls.length≤c0)(lG:Reads W h0 1 A0 ls.length (ar ls)) :
  tQ (ag R) Fence.wide n Tryz.prog 193 #[.pointer (some ⟨R,0,none⟩)] Ca (uD h0 R) (fun x W'=>Reads W' h0 1 x.A x.l.length (ar x.l)∧0<x.l.length∧x.l.length≤ls.length) (fun xs=>xs.map (·.l)=Nf.runs (ls.length+1) ls) (ls.length+1) W:=by
 intro l J hJ sJ hY;refine callsIn_of_wp Tryz.func193 rfl trivial ?_ rfl;simp only[Tryz.ntmps193,List.size_toArray,List.length_cons,List.length_nil,Nat.reduceAdd,Nat.reduceSub,Array.replicate_succ,Array.replicate_zero,List.push_toArray,List.append_toArray,List.nil_append,List.cons_append];obtain⟨all,hall⟩:∃all,Nf.runs (ls.length+1) ls=all:=⟨_,rfl⟩;rw[hall];have lX:=hide hall;clear hall;have HJ:=hide hJ;have HY:=hide hY;have H0:=hide sJ;have lT:=hide hc;have um:=hide lG;have tX:=hide (fun r W=>DC r W);clear hJ hY sJ hc lG;gi_wp2
 gi_loopg [3] ls.length (fun g v3 wr=>∃(rest:List Int) (f:Nat) (pre:List Rn) (A:Option Addr) (c:Nat),g=rest.length∧rest.length<f∧J pre wr∧pre.map (·.l)++Nf.runs f rest=all∧pre.length+rest.length≤ls.length∧ae wr R 124 #[.slice A rest.length c]∧rest.length≤c∧Reads wr h0 1 A rest.length (ar rest))
 case atStart=>exact⟨ls,ls.length+1,[],A0,c0,rfl,by omega,H0.out,by rw[←lX.out];rfl,by simp,lT.out,hc0,um.out⟩
 case round=>
  obtain⟨rest,f,pre,A,c,hg,hf,hj,hall,hlen,hb,hcc,lG⟩:=hrel;have Hg:=hide hg;have Hj:=hide hj;have kQ:=hide hall;have HB:=hide hb;have HR:=hide lG;have q0:=hb.cell 0;clear hg hj hall hb lG
  cases rest with
  | nil=>
   gi_wp2;go_end0
   exact⟨⟨_,rfl⟩,pre,by
    have:=kQ.out
    cases f with
    | zero=>exact absurd hf (by simp)
    | succ f=>simpa[Nf.runs] using this,Hj.out⟩
  | cons r tl=>
   obtain⟨f,rfl⟩:∃f',f=f'+1:=⟨f-1,by omega⟩;obtain⟨gb,off,rfl,dH,hcell⟩:=HR.out.2 (by simp);obtain⟨k,hk⟩:∃k,(r :: tl).length=k:=⟨_,rfl⟩;rw[hk] at q0 hcc HB HR hlen hf;have Lf:k=tl.length+1:=by rw[←hk];rfl
   have C7:=hide Lf;have iF:0<k:=by omega
   have Hk:=hide hk;clear hk Lf;obtain⟨mk,qN⟩:∃mk,(Nf.marks tl).length=mk:=⟨_,rfl⟩;have jS:=hide qN;have Uw:mk+1≤k:=by rw[←qN,C7.out];have:=Nf.Mp tl;omega
   clear qN;gi_wp2
   gi_loopg [3] mk (fun g v3 wq=>∃t:Nat,g=mk-t∧t≤mk∧v3=.int .i64 ((t+1:Nat):Int)∧wq=wr)
   case atStart=>exact⟨0,rfl,by omega,rfl,rfl⟩
   case round=>
    rename_i Le
    obtain⟨t,fK,LJ,rfl,E6⟩:=hrel;subst E6;have kR:=hide fK;clear fK;obtain⟨t1,mn⟩:∃t1,t+1=t1:=⟨_,rfl⟩;rw[mn];have ql:=hide mn
    by_cases hlt:t<mk
    ·obtain⟨x,hx⟩:∃x,tl[t]?=some x:=⟨_,List.getElem?_eq_getElem (by have:=jS.out;have:=Nf.Mp tl;omega)⟩;have vg:=Nf.ahf hx (by rw[jS.out];exact hlt);have y0:wr.cell? ⟨gb,off+t1,none⟩=some (.int .i64 x):=hcell t1 _ (by unfold ar;rw[List.getElem?_map,←mn,List.getElem?_cons_succ,hx];rfl);have hC:=tX.out x wr;obtain⟨cx,AJ⟩:∃cx,Nf.cls x=cx:=⟨_,rfl⟩;rw[AJ] at vg hC;have UX:(t1:Int)<(k:Int):=by omega
     have z1:IntKind.i64.wrap ((t1:Int)+1)=((t1+1:Nat):Int):=by rw[IntWalk.i64_in _ (by have:=Hk.out;have:=hlen;omega)];omega
     have HC:=hide hC;clear hx mn AJ hC
     gi_wp2_with (refine⟨trivial,?_⟩;gi_at_call 172;refine (callsIn_wide.2 HC.out).mono ?_;rintro e w2 ⟨rfl,hw2⟩;subst w2)
     go_roundg (mk-(t+1))
     case measure=>have:=kR.out;omega
     case rel=>exact⟨t+1,rfl,hlt,by rw[ql.out];first|rfl|go_num,rfl⟩
    by_cases hek:t1<k
    ·obtain⟨x,hx⟩:∃x,tl[t]?=some x:=⟨_,List.getElem?_eq_getElem (by have:=C7.out;omega)⟩;have vg:¬0<Nf.cls x:=Nf.ahg (by rw[jS.out,show mk=t by omega];exact hx);have y0:wr.cell? ⟨gb,off+t1,none⟩=some (.int .i64 x):=hcell t1 _ (by unfold ar;rw[List.getElem?_map,←mn,List.getElem?_cons_succ,hx];rfl);have hC:=tX.out x wr;obtain⟨cx,AJ⟩:∃cx,Nf.cls x=cx:=⟨_,rfl⟩;rw[AJ] at vg hC;have UX:(t1:Int)<(k:Int):=by omega
     have HC:=hide hC;clear hx AJ hC;have qP:t=mk:=by omega
     have qg:=hide qP
     have HX:=hide (show Reads wr h0 1 (some ⟨gb,off,none⟩) (r :: Nf.marks tl).length (ar (r :: Nf.marks tl)) by
      have h1:=HR.out.Yh (k:=mk+1) Uw
      have e1:(ar (r :: tl)).take (mk+1)=ar (r :: Nf.marks tl):=by
       rw[←jS.out];unfold ar;rw[←List.map_take,List.take_succ_cons,Nf.VU]
      rw[e1] at h1;have e2:(r :: Nf.marks tl).length=mk+1:=by rw[List.length_cons,jS.out]
      rw[e2];exact h1)
     have j7:=HY.out pre ⟨some ⟨gb,off,none⟩,r :: Nf.marks tl⟩ wr Hj.out ⟨HX.out,by simp,by rw[List.length_cons,jS.out];omega⟩ (by omega);unfold Ca at j7;dsimp only at j7;rw[show (r :: Nf.marks tl).length=t1 by rw[List.length_cons,jS.out,←ql.out,qg.out]] at j7;obtain⟨fn,tmps,assign,body,hy,lh⟩:=j7;have pU:=hide lh;have aq:0≤(t1:Int)∧(t1:Int)≤(t1:Int)∧(t1:Int)≤(c:Int):=by omega
     have af:0≤(t1:Int)∧(t1:Int)≤(k:Int)∧(k:Int)≤(c:Int):=by omega
     clear lh qP mn
     gi_wp2_with (refine⟨trivial,?_⟩;gi_at_call 172;refine (callsIn_wide.2 HC.out).mono ?_;rintro e w2 ⟨rfl,hw2⟩;subst w2)
     refine pU.out.mono ?_;rintro e W3 ⟨rfl,bV,aH⟩;have gO:=hide bV;have qF:ae W3 R 124 #[.slice (some ⟨gb,off,none⟩) k c]:=(aH.2 R HB.out.lt (.inr rfl)).trans HB.out;have q3:=qF.cell 0;have f3:=qF.frozen 0;have aw:=hide qF
     have kL:=hide (HR.out.keep (w':=W3) (fun p hp=>by
      unfold World.cell?;rw[aH.2 p.block (by have:=HB.out.lt;omega) (.inl hp)]))
     clear bV aH qF;gi_wp2
     all_goals
      go_roundg (tl.drop mk).length
      case measure=>have:=Hg.out;have:=Hk.out;rw[List.length_drop];rw[List.length_cons] at *;omega
      case rel=>
       have w1:=ql.out;have w2:=qg.out;have w3:=C7.out;have w4:=HB.out.lt;have aQ:(tl.drop mk).length=k-t1:=by rw[List.length_drop];omega
       first
        | (
          refine⟨tl.drop mk,f,pre++[⟨some ⟨gb,off,none⟩,r :: Nf.marks tl⟩],some ⟨gb,off+t1,none⟩,c-t1,rfl,by omega,HJ.out _ _ _ gO.out ((ag.refl R W3).setCell (.inl rfl) _),?_,by rw[aQ,List.length_append,List.length_singleton];omega,?_,by omega,?_⟩
          ·rw[←kQ.out,Nf.runs,jS.out];simp
          ·rw[aQ];have:=aw.out.aI 0 (.slice (some ⟨gb,off+t1,none⟩) (k-t1) (c-t1))
           simpa using this
          rw[aQ];have e1:ar (tl.drop mk)=(ar (r :: tl)).drop t1:=by unfold ar;rw[←List.map_drop,←ql.out,qg.out,List.drop_succ_cons]
          rw[e1];refine ((kL.out.DN (k:=t1) (by omega) (some ⟨gb,off+t1,none⟩) (fun h=>?_) (by omega)).keep fun p hp=>?_)
          ·first|rfl|omega
          unfold World.cell?;rw[Below.heap_setCell _ _ _ _ (by show p.block≠R;omega)])
        | (
          refine⟨tl.drop mk,f,pre++[⟨some ⟨gb,off,none⟩,r :: Nf.marks tl⟩],some ⟨gb,off,none⟩,0,rfl,by omega,HJ.out _ _ _ gO.out ((ag.refl R W3).setCell (.inl rfl) _),?_,by rw[aQ,List.length_append,List.length_singleton];omega,?_,by omega,?_⟩
          ·rw[←kQ.out,Nf.runs,jS.out];simp
          ·rw[aQ];have:=aw.out.aI 0 (.slice (some ⟨gb,off,none⟩) (k-t1) 0)
           simpa using this
          rw[aQ];have e1:ar (tl.drop mk)=(ar (r :: tl)).drop t1:=by unfold ar;rw[←List.map_drop,←ql.out,qg.out,List.drop_succ_cons]
          rw[e1];refine ((kL.out.DN (k:=t1) (by omega) (some ⟨gb,off,none⟩) (fun h=>?_) (by omega)).keep fun p hp=>?_)
          ·first|rfl|omega
          unfold World.cell?;rw[Below.heap_setCell _ _ _ _ (by show p.block≠R;omega)])
    have UX:¬(t1:Int)<(k:Int):=by omega
    have qP:t=mk:=by omega
    have qg:=hide qP
    have HX:=hide (show Reads wr h0 1 (some ⟨gb,off,none⟩) (r :: Nf.marks tl).length (ar (r :: Nf.marks tl)) by
     have h1:=HR.out.Yh (k:=mk+1) Uw
     have e1:(ar (r :: tl)).take (mk+1)=ar (r :: Nf.marks tl):=by
      rw[←jS.out];unfold ar;rw[←List.map_take,List.take_succ_cons,Nf.VU]
     rw[e1] at h1;have e2:(r :: Nf.marks tl).length=mk+1:=by rw[List.length_cons,jS.out]
     rw[e2];exact h1)
    have j7:=HY.out pre ⟨some ⟨gb,off,none⟩,r :: Nf.marks tl⟩ wr Hj.out ⟨HX.out,by simp,by rw[List.length_cons,jS.out];omega⟩ (by omega);unfold Ca at j7;dsimp only at j7;rw[show (r :: Nf.marks tl).length=t1 by rw[List.length_cons,jS.out,←ql.out,qg.out]] at j7;obtain⟨fn,tmps,assign,body,hy,lh⟩:=j7;have pU:=hide lh;have aq:0≤(t1:Int)∧(t1:Int)≤(t1:Int)∧(t1:Int)≤(c:Int):=by omega
    have af:0≤(t1:Int)∧(t1:Int)≤(k:Int)∧(k:Int)≤(c:Int):=by omega
    clear lh qP mn;gi_wp2;refine⟨trivial,?_⟩;gi_wp2;refine pU.out.mono ?_;rintro e W3 ⟨rfl,bV,aH⟩;have gO:=hide bV;have qF:ae W3 R 124 #[.slice (some ⟨gb,off,none⟩) k c]:=(aH.2 R HB.out.lt (.inr rfl)).trans HB.out;have q3:=qF.cell 0;have f3:=qF.frozen 0;have aw:=hide qF
    have kL:=hide (HR.out.keep (w':=W3) (fun p hp=>by
     unfold World.cell?;rw[aH.2 p.block (by have:=HB.out.lt;omega) (.inl hp)]))
    clear bV aH qF;gi_wp2
    all_goals
     go_roundg (tl.drop mk).length
     case measure=>have:=Hg.out;have:=Hk.out;rw[List.length_drop];rw[List.length_cons] at *;omega
     case rel=>
      have w1:=ql.out;have w2:=qg.out;have w3:=C7.out;have w4:=HB.out.lt;have aQ:(tl.drop mk).length=k-t1:=by rw[List.length_drop];omega
      first
       | (
         refine⟨tl.drop mk,f,pre++[⟨some ⟨gb,off,none⟩,r :: Nf.marks tl⟩],some ⟨gb,off+t1,none⟩,c-t1,rfl,by omega,HJ.out _ _ _ gO.out ((ag.refl R W3).setCell (.inl rfl) _),?_,by rw[aQ,List.length_append,List.length_singleton];omega,?_,by omega,?_⟩
         ·rw[←kQ.out,Nf.runs,jS.out];simp
         ·rw[aQ];have:=aw.out.aI 0 (.slice (some ⟨gb,off+t1,none⟩) (k-t1) (c-t1))
          simpa using this
         rw[aQ];have e1:ar (tl.drop mk)=(ar (r :: tl)).drop t1:=by unfold ar;rw[←List.map_drop,←ql.out,qg.out,List.drop_succ_cons]
         rw[e1];refine ((kL.out.DN (k:=t1) (by omega) (some ⟨gb,off+t1,none⟩) (fun h=>?_) (by omega)).keep fun p hp=>?_)
         ·first|rfl|omega
         unfold World.cell?;rw[Below.heap_setCell _ _ _ _ (by show p.block≠R;omega)])
       | (
         refine⟨tl.drop mk,f,pre++[⟨some ⟨gb,off,none⟩,r :: Nf.marks tl⟩],some ⟨gb,off,none⟩,0,rfl,by omega,HJ.out _ _ _ gO.out ((ag.refl R W3).setCell (.inl rfl) _),?_,by rw[aQ,List.length_append,List.length_singleton];omega,?_,by omega,?_⟩
         ·rw[←kQ.out,Nf.runs,jS.out];simp
         ·rw[aQ];have:=aw.out.aI 0 (.slice (some ⟨gb,off,none⟩) (k-t1) 0)
          simpa using this
         rw[aQ];have e1:ar (tl.drop mk)=(ar (r :: tl)).drop t1:=by unfold ar;rw[←List.map_drop,←ql.out,qg.out,List.drop_succ_cons]
         rw[e1];refine ((kL.out.DN (k:=t1) (by omega) (some ⟨gb,off,none⟩) (fun h=>?_) (by omega)).keep fun p hp=>?_)
         ·first|rfl|omega
         unfold World.cell?;rw[Below.heap_setCell _ _ _ _ (by show p.block≠R;omega)])
end
section
open Go.RowKit Go.WideShapes

attribute [local go_sem] Oper.semAt_some

theorem am8{F:Fence}{N:Nat}{P:Program}(W:World){e:TypeId}{ops:Array Oper}{rest:List Oper}{o:Oper}{a:Act}{Q:Exit→Act→World→Prop}(hgd:o.guard=none)(s x:Operand)(t:TypeId)
  (ho:o.op=.call { callee:=.builtin .append,args:=#[s,x],argTypes:=#[t,t] })
  (base:Nat) (z:Value) (bytes:Nat) (ht:P.underlying t=some (.slice e)) (fw:(P.info? e).map (fun i=>(i.zero,i.size,i.bytes))=some (some z,1,bytes))
  (hzs:z.cells.size=1) (v:Value) (n:Nat) (xs:List Value) (hs:a.eval s=v) (hown:W.ownsRow base e 1 v n xs)
  (B:Nat) (A:Option Addr) (m c:Nat) (cs:List Value) (hr:Reads W B 1 A m cs) (hm:0<m) (h1:∀u∈cs,u.oneCell'=true) (hx:a.eval x=.slice A m c)
  (h63:n+m≤maxLen) (hbytes:(n+m)*bytes≤140737488355328) (hbase:base≤W.heap.size)
  (h:∀g cap w',w'.ownsRow base e 1 (.slice (some ⟨g,0,none⟩) (n+m) cap) (n+m) (xs++cs)→W.grownBy w' v.ownBlock→g<w'.heap.size→base≤g→
   wpListIn F N P ops Q rest (a.put o.dst (.slice (some ⟨g,0,none⟩) (n+m) cap)) w'):wpListIn F N P ops Q (o :: rest) a W:=by
 obtain⟨i,hi,hz,hsize,hby⟩:=info_parts fw;obtain⟨b,off,rfl,_,hc⟩:=hr.2 hm;refine wpListIn_append_own W hgd s x t ho base e i z 1 bytes ht hi hz hsize hby hzs (by omega) v n xs hs hown ⟨b,off,none⟩ m c cs hx (by rw[hr.1]) ?_ h1 h63 hbytes hbase ?_
 ·intro j u hu;have:=hc j u hu;unfold Addr.add;split
  ·subst_vars;exact this
  exact this
 intro v' w' hown' hgrow _;obtain⟨g,cap,hv,hb,hlt⟩:=hown'.form (by omega);subst hv;exact h g cap w' hown' hgrow hlt hb
theorem aim{w:World}{base g n cap:Nat}{out run:List Int}(h:w.ownsRow base 3 1 (.slice (some ⟨g,0,none⟩) n cap) n (ar (out++run))) :
  ∃post,aS w g out.length (ar out) post run∧∀w' run',aS w' g out.length (ar out) post run'→run'.length=run.length→w'.ownsRow base 3 1 (.slice (some ⟨g,0,none⟩) n cap) n (ar (out++run')):=by
 have hn:(out++run).length=n:=by have:=h.1;rw[tB] at this;omega
 rcases h.2 with ⟨h0,_⟩|⟨g',cap',cur,e,hb,hh,h1,h2,h3,h4⟩
 ·cases h0
 cases e;rw[Nat.mul_one] at h3 h4
 have e:cur.toList=ar out++ar run++cur.toList.drop n:=by
  rw[←ic,←h4,List.take_append_drop]
 refine⟨cur.toList.drop n,⟨?_,tB _⟩,fun w' run' hs hl=>?_⟩
 ·unfold ae;rw[←e];exact hh
 have af:=hs.blk;unfold ae at af;refine⟨by rw[tB,List.length_append,hl,←List.length_append,hn];omega,.inr ⟨g,cap,_,rfl,hb,af,h1,h2,?_,?_⟩⟩
 ·rw[Nat.mul_one,←h3,←Array.length_toList,←Array.length_toList];show (ar out++ar run'++cur.toList.drop n).length=cur.toList.length
  conv=>rhs;rw[e]
  simp only[List.length_append,tB,hl]
 rw[Nat.mul_one];show (ar out++ar run'++cur.toList.drop n).take n=_;rw[←ic];exact List.take_left' (by rw[tB,List.length_append,hl,←List.length_append,hn])
structure sq(w:World)(L:Nat)(pre:List Rn)(W:World):Prop where
 row:∃A c,ae W w.heap.size 124 #[.slice A ((pre.map (·.l)).flatMap Nf.aA).length c]∧W.ownsRow (w.heap.size+4) 3 1 (.slice A ((pre.map (·.l)).flatMap Nf.aA).length c) ((pre.map (·.l)).flatMap Nf.aA).length (ar ((pre.map (·.l)).flatMap Nf.aA))
 b:Below w.heap.size w W
 size:w.heap.size+4≤W.heap.size
 len:∀x∈pre,x.l.length≤L
theorem sq.len_{w W:World}{L:Nat}{pre:List Rn}(h:sq w L pre W):((pre.map (·.l)).flatMap Nf.aA).length≤pre.length*L:=by
 have hl:=h.len;clear h
 induction pre with
 | nil=>simp
 | cons x pre ih=>
  rw[List.map_cons,List.flatMap_cons,List.length_append,Nf.js,List.length_cons,Nat.add_mul];have:=hl x (List.mem_cons_self ..);have:=ih fun y hy=>hl y (List.mem_cons_of_mem _ hy);omega
theorem sq.keep{w W W':World}{L:Nat}{pre:List Rn}(h:sq w L pre W)(hb:∀k,k<W.heap.size→k≠w.heap.size+1→k≠w.heap.size+2→k≠w.heap.size+3→W'.heap[k]?=W.heap[k]?)(hs:W.heap.size≤W'.heap.size)(ho:W'.os=W.os∧W'.tape=W.tape∧W'.output=W.output):sq w L pre W':=by
 obtain⟨A,c,hk,ai⟩:=h.row;have hz:=h.size;refine⟨⟨A,c,(hb _ (by omega) (by omega) (by omega) (by omega)).trans hk,?_⟩,⟨ho.1.trans h.b.os,ho.2.1.trans h.b.tape,ho.2.2.trans h.b.output,Nat.le_trans h.b.size hs,fun k hk=>(hb k (by have:=h.b.size;omega) (by omega) (by omega) (by omega)).trans (h.b.block k hk)⟩,by omega,h.len⟩
 rcases ai.2 with h0|⟨g,cap,cur,e,hg,hh,rest⟩
 ·exact⟨ai.1,.inl h0⟩
 exact⟨ai.1,.inr ⟨g,cap,cur,e,hg,(hb g (Array.getElem?_eq_some_iff.1 hh).1 (by omega) (by omega) (by omega)).trans hh,rest⟩⟩
theorem Wh{W w1:World}{b base n0 c1:Nat}{A1:Option Addr}{xs:List Value}(hk:ae W b 124 #[.slice A1 n0 c1])(ai:W.ownsRow base 3 1 (.slice A1 n0 c1) n0 xs)(hg:W.grownBy w1 (Value.slice A1 n0 c1).ownBlock):ae w1 b 124 #[.slice A1 n0 c1] :=
 hk.grown hg (fun e=>cU ai hk (by decide) e.symm)
theorem aif{w:World}{base e g n cap:Nat}{xs:List Value}(h:w.ownsRow base e 1 (.slice (some ⟨g,0,none⟩) n cap) n xs):n≤cap:=by
 rcases h.2 with ⟨h0,_⟩|⟨g',cap',cur,e,hb,hh,h1,h2,h3,h4⟩
 ·cases h0
 cases e;exact h1
theorem ah7{w w':World}{g t:Nat}(h:ag g w w')(hg:bO w g t):KeepsOthers w w':=⟨h.size,fun k o hk ho=>by
 refine (h.block k (Array.getElem?_eq_some_iff.1 hk).1 ?_).trans hk;rintro rfl;obtain⟨cs,fr,h2⟩:=hg;rw[hk] at h2;cases h2
 cases ho⟩
theorem ak1{w W w1 w3:World}{L g cap c:Nat}{pre:List Rn}{x:Rn}{A:Option Addr}{post:List Value}(B n1:Nat)
  (hk:ae W w.heap.size 124 #[.slice A ((pre.map (·.l)).flatMap Nf.aA).length c]) (ai:W.ownsRow (w.heap.size+4) 3 1 (.slice A ((pre.map (·.l)).flatMap Nf.aA).length c) ((pre.map (·.l)).flatMap Nf.aA).length (ar ((pre.map (·.l)).flatMap Nf.aA)))
  (hb:Below w.heap.size w W) (hsz:w.heap.size+4≤W.heap.size) (hlen:∀y∈pre,y.l.length≤L) (hx:x.l.length≤L)
  (qQ:n1=((pre.map (·.l)).flatMap Nf.aA).length+x.l.length)
  (hg:W.grownBy w1 (Value.slice A ((pre.map (·.l)).flatMap Nf.aA).length c).ownBlock) (mW:w.heap.size+4≤g)
  (ho:w1.ownsRow (w.heap.size+4) 3 1 (.slice (some ⟨g,0,none⟩) n1 cap) n1 (ar ((pre.map (·.l)).flatMap Nf.aA++x.l)))
  (hback:∀w' run',aS w' g ((pre.map (·.l)).flatMap Nf.aA).length (ar ((pre.map (·.l)).flatMap Nf.aA)) post run'→run'.length=x.l.length→w'.ownsRow (w.heap.size+4) 3 1 (.slice (some ⟨g,0,none⟩) n1 cap) n1 (ar ((pre.map (·.l)).flatMap Nf.aA++run')))
  (hs:aS w3 g ((pre.map (·.l)).flatMap Nf.aA).length (ar ((pre.map (·.l)).flatMap Nf.aA)) post (Nf.aA x.l)) (h3:ag g (w1.setCell ⟨w.heap.size,0,none⟩ (.slice (some ⟨g,0,none⟩) n1 cap)) w3) :
  KeepsFrom B W w3∧uD w.heap.size (w.heap.size+1) W w3∧sq w L (pre++[x]) w3:=by
 have hne:(Value.slice A ((pre.map (·.l)).flatMap Nf.aA).length c).ownBlock≠some w.heap.size:=cU ai hk (by decide);have hown:=aG ai;have cn:ae w1 w.heap.size 124 #[.slice A ((pre.map (·.l)).flatMap Nf.aA).length c]:=hk.grown hg (fun e=>hne e.symm)
 have cu:ae (w1.setCell ⟨w.heap.size,0,none⟩ (.slice (some ⟨g,0,none⟩) n1 cap)) w.heap.size 124 #[.slice (some ⟨g,0,none⟩) n1 cap]:=by
  have:=cn.aI 0 (.slice (some ⟨g,0,none⟩) n1 cap)
  simpa using this
 have aH:=h3.blk cu (by omega)
 have afj:bO (w1.setCell ⟨w.heap.size,0,none⟩ (.slice (some ⟨g,0,none⟩) n1 cap)) g 3:=by
  obtain⟨cs,fr,e⟩:=(aG ho g rfl).2;exact⟨cs,fr,(Below.heap_setCell _ _ _ _ (by show g≠w.heap.size;omega)).trans e⟩
 have E4:W.heap.size≤w1.heap.size:=hg.size;have vJ:(w1.setCell ⟨w.heap.size,0,none⟩ (.slice (some ⟨g,0,none⟩) n1 cap)).heap.size=w1.heap.size:=by simp[World.setCell]
 have low:∀k,k<w.heap.size+4→k≠w.heap.size→w3.heap[k]?=W.heap[k]?:=fun k hk4 h0=>by
  rw[h3.block k (by rw[vJ];omega) (by omega),Below.heap_setCell _ _ _ _ (by exact h0),hg.block k (by omega) (fun e=>by have:=(hown k e.symm).1;omega)]
 have af1:W.heap.size≤w3.heap.size:=by have:=h3.size;rw[vJ] at this;omega
 refine⟨?_,⟨af1,fun k iF h1=>low k (by omega) (by omega)⟩,?_⟩
 ·refine (((KeepsOthers.of_grownBy hg fun j o ej hj=>?_).trans (KeepsOthers.setCell _ _ _)).trans (ah7 h3 afj)).from B;obtain⟨_,cs,fr,h⟩:=hown j ej;rw[h] at hj;cases hj;rfl
 have e1:((pre++[x]).map (·.l)).flatMap Nf.aA=(pre.map (·.l)).flatMap Nf.aA++Nf.aA x.l:=by simp
 have e2:((pre.map (·.l)).flatMap Nf.aA++Nf.aA x.l).length=n1:=by rw[List.length_append,Nf.js,qQ]
 refine⟨⟨some ⟨g,0,none⟩,cap,?_,?_⟩,⟨?_,?_,?_,by have:=hb.size;omega,fun k iF=>(low k (by omega) (by omega)).trans (hb.block k iF)⟩,by omega,fun y hy=>?_⟩
 ·rw[e1,e2];exact aH
 ·rw[e1,e2];exact hback _ _ hs (Nf.js _)
 ·exact (h3.os.trans hg.os).trans hb.os
 ·exact (h3.tape.trans hg.tape).trans hb.tape
 ·exact (h3.output.trans hg.output).trans hb.output
 rcases List.mem_append.1 hy with hy|hy
 ·exact hlen y hy
 rw[List.mem_singleton] at hy;subst hy;exact hx
theorem akv(A:Option Addr)(n c:Nat)(w:World) :
  Calls Tryz.prog 175 #[.slice A n c] w fun e w'=>e=.returned (.func (.func 193) #[] #[.pointer (some ⟨w.heap.size,0,none⟩)])∧w'=w.alloc (.cells #[.slice A n c] 124):=by
 go_enter Tryz.func175,Tryz.ntmps175
 go_wp2;go_ret;exact⟨rfl,rfl⟩
theorem akX(l:List Int)(A:Option Addr)(c:Nat)(w:World)(hr:Reads w w.heap.size 1 A l.length (ar l))(hlc:l.length≤c)(hs:l.length≤4000000) :
  Calls Tryz.prog 141 #[.slice A l.length c] w fun e w'=>∃A' c',e=.returned (.slice A' (Nf.sort l).length c')∧w'.ownsRow w.heap.size 3 1 (.slice A' (Nf.sort l).length c') (Nf.sort l).length (ar (Nf.sort l))∧Below w.heap.size w w':=by
 refine (callsIn_wide (n:=5)).1 ?_;refine callsIn_of_wp_marks Tryz.func141 rfl trivial ?_ rfl;simp only[Tryz.ntmps141,List.size_toArray,List.length_cons,List.length_nil,Nat.reduceAdd,Nat.reduceSub,Array.replicate_succ,Array.replicate_zero,List.push_toArray,List.append_toArray,List.nil_append,List.cons_append];obtain⟨L,hL⟩:∃L,l.length=L:=⟨_,rfl⟩;have HL:=hide hL;rw[hL] at hr hlc hs;rw[hL];have HR:=hide hr;clear hL hr
 gi_wp2_with (refine⟨trivial,?_⟩;gi_at_call 175;refine (callsIn_wide.2 (akv _ _ _ _)).mono ?_;rintro e w' ⟨rfl,rfl⟩)
 have gW:ae ((w.alloc (.cells #[.slice none 0 0] 124)).alloc (.cells #[.slice A L c] 124)) (w.heap.size+1) 124 #[.slice A L c]:=by
  have:=ae.new (w.alloc (.cells #[.slice none 0 0] 124)) 124 #[.slice A L c];rwa[World.size_alloc] at this
 have j6:ae ((w.alloc (.cells #[.slice none 0 0] 124)).alloc (.cells #[.slice A L c] 124)) w.heap.size 124 #[.slice none 0 0]:=(ae.new w 124 #[.slice none 0 0]).alloc _;have di:Below w.heap.size w ((w.alloc (.cells #[.slice none 0 0] 124)).alloc (.cells #[.slice A L c] 124)):=(az w _).trans ((az _ _).mono (by simp));have hz2:((w.alloc (.cells #[.slice none 0 0] 124)).alloc (.cells #[.slice A L c] 124)).heap.size=w.heap.size+2:=by simp
 generalize (w.alloc (.cells #[.slice none 0 0] 124)).alloc (.cells #[.slice A L c] 124)=W2 at gW j6 di hz2 ⊢;have gN:=hide (fun o o'=>show sq w L [] ((W2.alloc o).alloc o') from⟨⟨none,0,(j6.alloc o).alloc o',World.ownsRow_nil _ _ _ _⟩,(di.trans ((az W2 o).mono (by omega))).trans ((az (W2.alloc o) o').mono (by simp;omega)),by simp;omega,fun x hx=>by cases hx⟩)
 have mm:∀o o',tQ (ag (w.heap.size+1)) Fence.wide (5-1) Tryz.prog 193 #[.pointer (some ⟨w.heap.size+1,0,none⟩)] Ca (uD w.heap.size (w.heap.size+1)) (fun x W'=>Reads W' w.heap.size 1 x.A x.l.length (ar x.l)∧0<x.l.length∧x.l.length≤L) (fun xs=>xs.map (·.l)=Nf.runs (L+1) l) (L+1) ((W2.alloc o).alloc o'):=by
  intro o o'
  have h:=aku (5-1) (by omega) (w.heap.size+1) w.heap.size A c l (by rw[HL.out];omega) ((W2.alloc o).alloc o') (by omega) (by rw[HL.out];exact (gW.alloc o).alloc o') (by rw[HL.out];exact hlc) (by rw[HL.out];exact (HR.out.below di).keep (fun p hp=>by
   unfold World.cell?;rw[Below.heap_alloc _ _ _ (by simp;omega),Below.heap_alloc _ _ _ (by omega)]))
  rw[HL.out] at h;exact h
 have HSt:=hide (fun l pre post g off cap n W h=>akW l pre post g off cap n W h)
 refine MM (Fr:=ag (w.heap.size+1)) (fun A B h k h1 h2=>h.block k h2 (by omega)) rfl (by omega) (gf:=193) (lb:=#[.pointer (some ⟨w.heap.size+1,0,none⟩)]) rfl trivial (enters_of Tryz.func193 (by kernel_rfl) rfl) (fun _=>rfl)
  mm ?kt ?kb (sq w L) ?ip ?ib ?f gN.out
  (fun x=>{ tmps:=#[.slice A L c,undef,.slice none 0 0,.pointer (some ⟨w.heap.size,0,none⟩),.slice x.A x.l.length x.l.length,undef,.slice A L c,.func (.func 193) #[] #[.pointer (some ⟨w.heap.size+1,0,none⟩)],.slice x.A x.l.length x.l.length,undef,undef,undef,undef,undef,undef,undef,undef,undef,undef],defers:=[] }) ?assign ?body ?done
 case kt=>exact fun h k=>h.trans k
 case kb=>exact fun W o o' h _=>⟨by simp[World.putObj],fun k hk h1=>World.putObj_heap_other (by omega)⟩
 case ip=>
  intro s W o o' h _ _;exact h.keep (fun k h1 h2 h3 h4=>World.putObj_heap_other (by omega)) (by simp[World.putObj]) ⟨rfl,rfl,rfl⟩
 case ib=>
  intro s A B h hb;exact h.keep (fun k h1 h2 h3 h4=>hb.block k h1 h2) hb.size ⟨hb.os,hb.tape,hb.output⟩
 case f=>
  intro x W o h
  exact⟨h.1.keep (fun p hp=>by
   unfold World.cell?;rw[World.putObj_heap_other (by omega)]),h.2⟩
 case assign=>
  intro l x W K hK;unfold Ca at *
  gi_wp2;exact hK
 case body=>
  intro l pre x W hI hf hlen hsz;have nd:=hI.len_;obtain⟨⟨A1,c1,hk,ai⟩,hb,pG,kj⟩:=hI;have Hk:=hide hk;have jy:=hide ai;have Hb:=hide hb;have zC:=hide kj;have q0:=hk.cell 0;have HF:=hide hf;obtain⟨out,hout⟩:∃out,(pre.map (·.l)).flatMap Nf.aA=out:=⟨_,rfl⟩;have Iy:=hide hout;rw[hout] at q0 nd;have IB:=hide (hout▸ai:W.ownsRow (w.heap.size+4) 3 1 (.slice A1 out.length c1) out.length (ar out));obtain⟨m,hm⟩:∃m,x.l.length=m:=⟨_,rfl⟩;have Hm:=hide hm;have qL:0<m:=by rw[←hm];exact hf.2.1
  have hmL:m≤L:=by rw[←hm];exact hf.2.2
  have hX:=hf.1;rw[hm] at hX;have HX:=hide hX;obtain⟨n0,kp⟩:∃n0,out.length=n0:=⟨_,rfl⟩;rw[kp] at q0 nd IB;have Qo:=hide kp;have Hk1:=hide (show ae W w.heap.size 124 #[.slice A1 n0 c1] by have h:=Hk.out;rw[hout,kp] at h;exact h)
  have aoJ:n0≤16000004000000:=by
   refine Nat.le_trans nd (Nat.le_trans (Nat.mul_le_mul (Nat.le_of_lt hlen) (Nat.le_refl L)) ?_);exact Nat.le_trans (Nat.mul_le_mul (Nat.succ_le_succ hs) hs) (by omega)
  have LF:w.heap.size+4≤W.heap.size:=pG;rw[hm];have HFz:=hide (hk.frozen 0);clear hk ai hb kj hf hout hm hX kp mm gW j6 di gN
  gi_wp2_with (gi_at_builtin;go_loud (refine am8 W rfl (.tmp 11) (.tmp 12) 124 rfl (w.heap.size+4) (.int .i64 0) 8 Tryz.underlying124 fD rfl _ n0 (ar out) rfl IB.out w.heap.size x.A m m (ar x.l) HX.out qL (Fo _) rfl (by unfold maxLen;omega) (by omega) LF ?_);intro g cap w1 og hg1 fL aq;obtain⟨n1,qQ⟩:∃n1,n0+m=n1:=⟨_,rfl⟩;rw[qQ] at og ⊢;have r7:=hide qQ;have Im:=hide hg1;have eN:=hide (show w1.ownsRow (w.heap.size+4) 3 1 (.slice (some ⟨g,0,none⟩) n1 cap) n1 (ar (out++x.l)) from (ic out x.l).symm▸og);have cn:=Wh Hk1.out IB.out hg1;have q1:=cn.cell 0;have f1:=cn.frozen 0;have hz1:w.heap.size+4≤w1.heap.size:=Nat.le_trans LF hg1.size;have xJ:=aif og;have qU:0≤(n0:Int)∧(n0:Int)≤(n1:Int)∧(n1:Int)≤(cap:Int):=(by omega);have mW:w.heap.size+4≤g:=aq;have Lm:n0<cap:=(by omega);clear og hg1 cn qQ aq)
  obtain⟨post,fC,hback⟩:=aim eN.out;have Lj:n1-n0=m:=by have:=r7.out;omega
  rw[Lj];have hgo:g≠w.heap.size:=by omega
  have TB:aS (w1.setCell ⟨w.heap.size,0,none⟩ (.slice (some ⟨g,0,none⟩) n1 cap)) g n0 (ar out) post x.l:=by
   have h1:=fC.yx;exact⟨fC.blk.far (by exact hgo) _,by rw[tB];exact Qo.out⟩
  have rW:=hide (HSt.out x.l (ar out) post g n0 (cap-n0) m _ TB Hm.out.symm (by omega));refine⟨trivial,?_⟩;refine (callsIn_wide.2 rW.out).mono ?_;rintro e w3 ⟨rfl,ku,aB⟩;have kL:=hide ku;have aw:=hide aB;have tU:=hide hback;clear fC hback TB ku aB q1 f1 q0;gi_wp2;have hO:=Iy.out;have hN:=Qo.out;subst hO;have hst:=ak1 (L:=L) (cap:=cap) (x:=x) (post:=post) W2.heap.size n1 Hk.out jy.out Hb.out LF zC.out HF.out.2.2 (by rw[hN,Hm.out,r7.out]) (by rw[hN];exact Im.out) mW eN.out tU.out (by rw[hN];exact kL.out) aw.out;exact hst
 case done=>
  intro D xs W hD eG hI hK;obtain⟨⟨A1,c1,hk,ai⟩,hb,pG,kj⟩:=hI
  have e1:(xs.map (·.l)).flatMap Nf.aA=Nf.sort l:=by
   unfold Nf.sort;rw[eG,HL.out]
  rw[e1] at hk ai;have q0:=hk.cell 0;have HK:=hide hK;have jy:=hide ai;have Hb:=hide hb;have Ec:D=w.heap.size+2:=by omega
  clear hk ai hb kj hK mm gN gW j6 di;gi_wp2;refine⟨by simp,.inl ⟨_,_,rfl,run_takeDeferred (w:=W) HK.out,?_⟩⟩;refine⟨.slice A1 (Nf.sort l).length c1,?_,?_⟩
  ·simp[results,Tryz.results141,go_sem]
  refine⟨A1,c1,rfl,?_,?_⟩
  ·have h:=jy.out
   rcases h.2 with h0|⟨g,cap,cur,e,hg,hh,rest⟩
   ·exact⟨h.1,.inl h0⟩
   exact⟨h.1,.inr ⟨g,cap,cur,e,by omega,(World.putObj_heap_other (by omega)).trans hh,rest⟩⟩
  exact⟨Hb.out.os,Hb.out.tape,Hb.out.output,Nat.le_trans Hb.out.size (by simp[World.putObj]),fun k hk=>(World.putObj_heap_other (by omega)).trans (Hb.out.block k hk)⟩
end
section
open Go.RowKit Go.WideShapes

attribute [local go_sem] Oper.semAt_some

def mK(W:World)(k:Nat):Prop:=∃cs t fr,W.heap[k]?=some (.cells cs t fr)
theorem mK.Wj{W:World}{g i:Nat}{u:Value}(h:W.cell? ⟨g,i,none⟩=some u):mK W g:=by
 unfold World.cell? at h;dsimp only at h
 split at h
 ·rename_i cs t fr e;exact⟨cs,t,fr,e⟩
 cases h
theorem mK.lt{W:World}{k:Nat}(h:mK W k):k<W.heap.size:=by
 obtain⟨cs,t,fr,h⟩:=h;exact (Array.getElem?_eq_some_iff.1 h).1
def iw(Ob:Nat)(W:World)(k:Nat):Prop:=∃n c,ae W Ob 124 #[.slice (some ⟨k,0,none⟩) n c]
structure Kq(Ob:Nat)(W W':World):Prop where
 size:W.heap.size≤W'.heap.size
 keep:∀k,mK W k→k≠Ob→¬iw Ob W k→W'.heap[k]?=W.heap[k]?
 ptr:∀k,iw Ob W' k→iw Ob W k∨W.heap.size≤k
 lt:(∀k,iw Ob W k→k<W.heap.size)→∀k,iw Ob W' k→k<W'.heap.size
theorem Kq.trans{Ob:Nat}{X Y Z:World}(h:Kq Ob X Y)(k:Kq Ob Y Z):Kq Ob X Z:=by
 refine⟨Nat.le_trans h.size k.size,fun i hc hne hp=>?_,fun i hp=>?_,fun hl=>k.lt (h.lt hl)⟩
 ·have e:=h.keep i hc hne hp;refine (k.keep i ?_ hne fun fB=>?_).trans e
  ·obtain⟨cs,t,fr,hc⟩:=hc;exact⟨cs,t,fr,e.trans hc⟩
  rcases h.ptr i fB with h1|h1
  ·exact hp h1
  have:=hc.lt;omega
 rcases k.ptr i hp with h1|h1
 ·exact h.ptr i h1
 exact .inr (Nat.le_trans h.size h1)
theorem Kq.put{Ob l:Nat}{W:World}{o o':Obj}(hl:W.heap[l]?=some o')(hc:o'.isCells=false)(hne:Ob≠l):Kq Ob W (W.putObj l o):=by
 have hO:(W.putObj l o).heap[Ob]?=W.heap[Ob]?:=World.putObj_heap_other hne;have hp:∀k,iw Ob (W.putObj l o) k→iw Ob W k:=fun k ⟨n,c,h⟩=>⟨n,c,hO.symm.trans h⟩;refine⟨by simp[World.putObj],fun k hk _ _=>World.putObj_heap_other ?_,fun k h=>.inl (hp k h),fun h k hk=>by have:=h k (hp k hk);simp[World.putObj];exact this⟩;rintro rfl;obtain⟨cs,t,fr,e⟩:=hk;rw[hl] at e;cases e;cases hc
theorem iw.of_eq{Ob:Nat}{W W':World}{k:Nat}(h:iw Ob W' k)(e:W'.heap[Ob]?=W.heap[Ob]?):iw Ob W k:=by
 obtain⟨n,c,h⟩:=h;exact⟨n,c,e.symm.trans h⟩
structure nK(Ob:Nat)(W:World)(A:Option Addr)(l:List Int):Prop where
 is:0<l.length→∃gp off,A=some ⟨gp,off,none⟩∧gp≠Ob∧¬iw Ob W gp∧∀i y,l[i]?=some y→W.cell? ⟨gp,off+i,none⟩=some (.int .i64 y)
theorem nK.kq{Ob:Nat}{W W':World}{A:Option Addr}{l:List Int}(h:nK Ob W A l)(k:Kq Ob W W'):nK Ob W' A l:=⟨fun hl=>by
 obtain⟨gp,off,e,h1,h2,h3⟩:=h.is hl;have hc:mK W gp:=mK.Wj (h3 0 l[0] (List.getElem?_eq_getElem hl));have hk:=k.keep gp hc h1 h2;refine⟨gp,off,e,h1,fun hp=>?_,fun i y hy=>?_⟩
 ·rcases k.ptr gp hp with h4|h4
  ·exact h2 h4
  have:=hc.lt;omega
 have:=h3 i y hy;unfold World.cell? at this ⊢;dsimp only at this ⊢;rwa[hk]⟩
theorem nK.below{Ob:Nat}{W W':World}{A:Option Addr}{l:List Int}(h:nK Ob W A l)(hO:Ob<W.heap.size)(k:Below W.heap.size W W'):nK Ob W' A l:=⟨fun hl=>by
 obtain⟨gp,off,e,h1,h2,h3⟩:=h.is hl;have hc:mK W gp:=mK.Wj (h3 0 l[0] (List.getElem?_eq_getElem hl));refine⟨gp,off,e,h1,fun hp=>h2 (hp.of_eq (k.block Ob hO)),fun i y hy=>(k.cell (p:=⟨gp,off+i,none⟩) hc.lt).trans (h3 i y hy)⟩⟩
theorem aiY{Ob M cp:Nat}{W w2:World}{Ap:Option Addr}{l:List Int}(ho:w2.ownsRow W.heap.size 3 1 (.slice Ap M cp) M (ar l))(hM:l.length=M)(hO:Ob<W.heap.size)(hp:∀k,iw Ob W k→k<W.heap.size)(hb:Below W.heap.size W w2):nK Ob w2 Ap l:=⟨fun hl=>by
 obtain⟨b,off,e,_,hc⟩:=(Reads.eH ho).2 (by omega);obtain⟨g,cap,hv,hg,_⟩:=ho.form (by omega);injection hv with hA
 rw[hA] at e;injection e with e
 injection e with e1 e2
 subst e1;refine⟨g,off,by rw[hA,e2],by omega,fun h=>?_,fun i y hy=>hc i _ (by unfold ar;rw[List.getElem?_map,hy];rfl)⟩;have:=hp g (h.of_eq (hb.block Ob hO))
 omega⟩
theorem aiE(n:Nat)(hn:1≤n)(Bs Ob:Nat)(A0:Option Addr)(c0:Nat)(ls:List Int)(hs:ls.length≤1000000)(W:World)(hc:ae W Bs 124 #[.slice A0 ls.length c0])(hO:Ob<W.heap.size)(hp:∀k,iw Ob W k→k<W.heap.size)
  (lG:nK Ob W A0 ls) (bF:∀x∈ls,Nf.Ok x) :
  tQ (ag Bs) Fence.wide n Tryz.prog 173 #[.pointer (some ⟨Bs,0,none⟩)] (fun x:Int=>#[.int .i64 x]) (Kq Ob) (fun x _=>Nf.Ok x) (fun xs=>xs=Nf.bT ls) (16*ls.length+1) W:=by
 intro l J hJ sJ hY;refine callsIn_of_wp Tryz.func173 rfl trivial ?_ rfl;simp only[Tryz.ntmps173,List.size_toArray,List.length_cons,List.length_nil,Nat.reduceAdd,Nat.reduceSub,Array.replicate_succ,Array.replicate_zero,List.push_toArray,List.append_toArray,List.nil_append,List.cons_append];obtain⟨N,hN⟩:∃N,ls.length=N:=⟨_,rfl⟩;rw[hN] at hs hc;have HN:=hide hN;have HJ:=hide hJ;have HY:=hide hY;have H0:=hide sJ;have um:=hide lG;have fO:=hide bF;have HP:=hide hp;have Z3:=hide hO;have q0:=hc.cell 0;clear hJ hY sJ hc lG bF hp hO hN;gi_wp2
 gi_loopg [9] N (fun g v9 wr=>∃(j:Nat),g=N-j∧j≤N∧v9=.int .i64 (j:Int)∧J (Nf.bT (ls.take j)) wr∧nK Ob wr A0 ls∧(∀k,iw Ob wr k→k<wr.heap.size)∧Ob<wr.heap.size)
 case atStart=>exact⟨0,rfl,by omega,rfl,H0.out,um.out,HP.out,Z3.out⟩
 case round=>
  obtain⟨j,hg,hj,rfl,Tf,lG,EW,Tt⟩:=hrel;have Hg:=hide hg;have Hj:=hide Tf;have HR:=hide lG;have zn:=hide EW;have CO:=hide Tt;clear hg Tf lG EW Tt
  by_cases hlt:j<N
  ·obtain⟨r,hr⟩:∃r,ls[j]?=some r:=⟨_,List.getElem?_eq_getElem (by rw[HN.out];exact hlt)⟩;obtain⟨gb,off,rfl,_,_,hcell⟩:=HR.out.is (by rw[HN.out];omega);have y0:=hcell j r hr;have HD:=hide (Nf.JE hr);have UQ:=fO.out r (List.mem_of_getElem? hr);have PD:=hide (aiF r wr UQ);have HPo:=hide (Nf.aiI UQ);have kj:=Nf.xq (ls.take (j+1));rw[HD.out,List.length_append] at kj;have afr:(Nf.bT (ls.take j)).length+(Nf.parts r).length≤16*N:=Nat.le_trans kj (Nat.mul_le_mul (Nat.le_refl _) (by rw[List.length_take];have:=HN.out;omega));obtain⟨M,hM⟩:∃M,(Nf.parts r).length=M:=⟨_,rfl⟩;rw[hM] at PD afr;have HM:=hide hM;clear hcell hr hM kj
   gi_wp2_with (refine⟨trivial,?_⟩;gi_at_call 174;refine (callsIn_wide.2 PD.out).mono ?_;rintro e w2 ⟨Ap,cp,rfl,ho,hb⟩;have ah:=hide hb;have HRp:=hide (aiY ho HM.out CO.out zn.out hb);clear ho hb)
   have Hj2:=hide (HJ.out _ _ _ Hj.out (ag.bX (R:=Bs) ah.out));have dD:=hide (HR.out.below CO.out ah.out);have aac:=hide (show ∀k,iw Ob w2 k→k<w2.heap.size from fun k h=>Nat.lt_of_lt_of_le (zn.out k (h.of_eq (ah.out.block Ob CO.out))) ah.out.size);have Z5:=hide (show Ob<w2.heap.size from Nat.lt_of_lt_of_le CO.out ah.out.size);clear y0
   gi_loopg [16] M (fun g v16 wq=>∃(t:Nat),g=M-t∧t≤M∧v16=.int .i64 (t:Int)∧J (Nf.bT (ls.take j)++(Nf.parts r).take t) wq∧nK Ob wq (some ⟨gb,off,none⟩) ls∧nK Ob wq Ap (Nf.parts r)∧(∀k,iw Ob wq k→k<wq.heap.size)∧Ob<wq.heap.size)
   case atStart=>exact⟨0,rfl,by omega,rfl,by simpa using Hj2.out,dD.out,HRp.out,aac.out,Z5.out⟩
   case round=>
    obtain⟨t,fK,htM,rfl,Tg,UO,UR,UK,Tu⟩:=hrel;have kR:=hide fK;have Qi:=hide Tg;have kL:=hide UO;have PJ:=hide UR;have PG:=hide UK;have PA:=hide Tu;clear fK Tg UO UR UK Tu
    by_cases dI:t<M
    ·obtain⟨y,hy⟩:∃y,(Nf.parts r)[t]?=some y:=⟨_,List.getElem?_eq_getElem (by rw[HM.out];exact dI)⟩;obtain⟨gp,apw,rfl,_,_,ve⟩:=PJ.out.is (by rw[HM.out];omega);have y1:=ve t y hy;have Vh:=HPo.out y (List.mem_of_getElem? hy);have j7:=HY.out (Nf.bT (ls.take j)++(Nf.parts r).take t) y wr Qi.out Vh (by rw[List.length_append,List.length_take];have:=HM.out;have:=HN.out;omega);obtain⟨fn,tmps,assign,body,hyy,lh⟩:=j7;have Hy:=hide hy;have pU:=hide lh;clear ve Vh hy lh;gi_wp2;refine pU.out.mono ?_;rintro e W3 ⟨rfl,bV,aH⟩;have gO:=hide bV;have cQ:=hide aH;clear bV aH y1;gi_wp2
     go_roundg (M-(t+1))
     case measure=>have:=kR.out;omega
     case rel=>exact⟨t+1,rfl,by omega,by first|rfl|go_num,by rw[tL Hy.out,←List.append_assoc];exact gO.out,kL.out.kq cQ.out,PJ.out.kq cQ.out,cQ.out.lt PG.out,Nat.lt_of_lt_of_le PA.out cQ.out.size⟩
    have LJ:t=M:=by omega
    have Htm:=hide LJ;clear LJ;gi_wp2
    go_roundg (N-(j+1))
    case measure=>have:=Hg.out;omega
    case rel=>
     have h1:=Qi.out;rw[List.take_of_length_le (l:=Nf.parts r) (by rw[HM.out,Htm.out];exact Nat.le_refl _),←HD.out] at h1;exact⟨j+1,rfl,by omega,by first|rfl|go_num,h1,kL.out,PG.out,PA.out⟩
  gi_wp2;go_end0;have oc:j=N:=by omega
  have h1:=Hj.out;rw[List.take_of_length_le (by rw[HN.out];omega)] at h1;exact⟨⟨_,rfl⟩,_,rfl,h1⟩
end
end Go.Proofs.YtnbmfljhbpfilaaGreatDoor
