/- NFC: the iterator over runs (order.runs); order.Sort. And more. -/
import Derived.Test.YtpdkeckeekchlaaGreatDoorOt25
import Derived.Sort.LoopGhostIn
set_option linter.unusedSimpArgs false
set_option maxRecDepth 100000
set_option maxHeartbeats 8000000
set_option linter.unusedVariables false
namespace Go.Proofs.YtpdkeckeekchlaaGreatDoor
section
open Go.RowKit Go.WideShapes

attribute [local go_sem] Oper.semAt_some

namespace Nf
theorem ahF{tl:List Int}{t:Nat}{x:Int}(h:tl[t]?=some x)(ht:t<(marks tl).length):0<cls x:=by
 unfold marks at ht
 induction tl generalizing t with
 | nil=>cases h
 | cons y tl ih=>
  rw[List.takeWhile_cons] at ht
  split at ht
  ·rename_i hy
   cases t with
   | zero=>cases h;exact of_decide_eq_true hy
   | succ t=>exact ih h (by simpa using ht)
  simp at ht
theorem ahG{tl:List Int}{x:Int}(h:tl[(marks tl).length]?=some x):¬0<cls x:=by
 unfold marks at h
 induction tl with
 | nil=>cases h
 | cons y tl ih=>
  rw[List.takeWhile_cons] at h
  split at h
  ·exact ih (by simpa using h)
  rename_i hy
  cases h;exact of_decide_eq_false (by simpa using hy)
theorem MV(tl:List Int):(marks tl).length≤tl.length:=by
 unfold marks
 induction tl with
 | nil=>simp
 | cons y tl ih=>rw[List.takeWhile_cons];split<;>simp<;>omega
theorem ahE(tl:List Int):marks tl++tl.drop (marks tl).length=tl:=by
 unfold marks
 induction tl with
 | nil=>rfl
 | cons y tl ih=>rw[List.takeWhile_cons];split<;>simp[ih]
theorem Wv(tl:List Int):tl.take (marks tl).length=marks tl:=by
 have h:=ahE tl;have h2:(marks tl++tl.drop (marks tl).length).take (marks tl).length=marks tl:=List.take_left' rfl;rwa[h] at h2
end Nf
structure Rn where
 A:Option Addr
 l:List Int
def CK(x:Rn):Array Value:=#[.slice x.A x.l.length x.l.length]
def vw(h0 R:Nat)(W W':World):Prop:=W.heap.size≤W'.heap.size∧∀k,k<W.heap.size→(k<h0∨k=R)→W'.heap[k]?=W.heap[k]?
theorem vw.trans{h0 R:Nat}{X Y Z:World}(h:vw h0 R X Y)(k:vw h0 R Y Z):vw h0 R X Z:=⟨Nat.le_trans h.1 k.1,fun g hg hk=>(k.2 g (Nat.lt_of_lt_of_le hg h.1) hk).trans (h.2 g hg hk)⟩
theorem Reads.EH{w:World}{B n k:Nat}{gb off:Nat}{xs:List Value}(h:Reads w B 1 (some ⟨gb,off,none⟩) n xs)(hk:k≤n)(A:Option Addr)(hA:k<n→A=some ⟨gb,off+k,none⟩)(hB:0<n):Reads w B 1 A (n-k) (xs.drop k):=by
 refine⟨by rw[List.length_drop,h.1];omega,fun hn=>?_⟩;obtain⟨b,o,e,hb,hc⟩:=h.2 hB;cases e;refine⟨gb,off+k,hA (by omega),hb,fun j u hu=>?_⟩;rw[List.getElem?_drop] at hu;rw[Nat.add_assoc];exact hc _ _ hu
theorem Reads.YK{w:World}{B n k:Nat}{A:Option Addr}{xs:List Value}(h:Reads w B 1 A n xs)(hk:k≤n):Reads w B 1 A k (xs.take k):=by
 refine⟨by rw[List.length_take,h.1];omega,fun hn=>?_⟩;obtain⟨b,o,e,hb,hc⟩:=h.2 (by omega);refine⟨b,o,e,hb,fun j u hu=>hc j u ?_⟩;rw[List.getElem?_take] at hu
 split at hu
 ·exact hu
 cases hu
theorem ak2(n:Nat)(hn:1≤n)(R h0:Nat)(A0:Option Addr)(c0:Nat)(ls:List Int)(hs:ls.length≤1000000000)(W:World)(hR:h0≤R)(hc:ae W R 164 #[.slice A0 ls.length c0])(hc0:ls.length≤c0)(lT:Reads W h0 1 A0 ls.length (aq ls)) :
  uB (ai R) Fence.wide n Tryz.prog 217 #[.pointer (some ⟨R,0,none⟩)] CK (vw h0 R) (fun x W'=>Reads W' h0 1 x.A x.l.length (aq x.l)∧0<x.l.length∧x.l.length≤ls.length) (fun xs=>xs.map (·.l)=Nf.runs (ls.length+1) ls) (ls.length+1) W:=by
 intro l J hJ tC hY;refine callsIn_of_wp Tryz.func217 rfl trivial ?_ rfl;simp only[Tryz.ntmps217,List.size_toArray,List.length_cons,List.length_nil,Nat.reduceAdd,Nat.reduceSub,Array.replicate_succ,Array.replicate_zero,List.push_toArray,List.append_toArray,List.nil_append,List.cons_append];obtain⟨all,hall⟩:∃all,Nf.runs (ls.length+1) ls=all:=⟨_,rfl⟩;rw[hall];have mf:=ap hall;clear hall;have HJ:=ap hJ;have HY:=ap hY;have H0:=ap tC;have l7:=ap hc;have IW:=ap lT;have uJ:=ap (fun r W=>EA r W);clear hJ hY tC hc lT;gi_wp2
 gi_loopg [3] ls.length (fun g v3 wr=>∃(rest:List Int) (f:Nat) (pre:List Rn) (A:Option Addr) (c:Nat),g=rest.length∧rest.length<f∧J pre wr∧pre.map (·.l)++Nf.runs f rest=all∧pre.length+rest.length≤ls.length∧ae wr R 164 #[.slice A rest.length c]∧rest.length≤c∧Reads wr h0 1 A rest.length (aq rest))
 case atStart=>exact⟨ls,ls.length+1,[],A0,c0,rfl,by omega,H0.o,by rw[←mf.o];rfl,by simp,l7.o,hc0,IW.o⟩
 case round=>
  obtain⟨rest,f,pre,A,c,hg,hf,hj,hall,hlen,hb,hcc,lT⟩:=hrel;have Hg:=ap hg;have Hj:=ap hj;have ld:=ap hall;have HB:=ap hb;have HR:=ap lT;have q0:=hb.cell 0;clear hg hj hall hb lT
  cases rest with
  | nil=>
   gi_wp2;go_end0
   exact⟨⟨_,rfl⟩,pre,by
    have:=ld.o
    cases f with
    | zero=>exact absurd hf (by simp)
    | succ f=>simpa[Nf.runs] using this,Hj.o⟩
  | cons r tl=>
   obtain⟨f,rfl⟩:∃f',f=f'+1:=⟨f-1,by omega⟩;obtain⟨gb,off,rfl,dG,hcell⟩:=HR.o.2 (by simp);obtain⟨k,hk⟩:∃k,(r :: tl).length=k:=⟨_,rfl⟩;rw[hk] at q0 hcc HB HR hlen hf;have LP:k=tl.length+1:=by rw[←hk];rfl
   have DN:=ap LP;have iT:0<k:=by omega
   have Hk:=ap hk;clear hk LP;obtain⟨mk,rJ⟩:∃mk,(Nf.marks tl).length=mk:=⟨_,rfl⟩;have j5:=ap rJ;have UX:mk+1≤k:=by rw[←rJ,DN.o];have:=Nf.MV tl;omega
   clear rJ;gi_wp2
   gi_loopg [3] mk (fun g v3 wq=>∃t:Nat,g=mk-t∧t≤mk∧v3=.int .i64 ((t+1:Nat):Int)∧wq=wr)
   case atStart=>exact⟨0,rfl,by omega,rfl,rfl⟩
   case round=>
    rename_i LO
    obtain⟨t,fV,Mm,rfl,FK⟩:=hrel;subst FK;have lf:=ap fV;clear fV;obtain⟨t1,lV⟩:∃t1,t+1=t1:=⟨_,rfl⟩;rw[lV];have oh:=ap lV
    by_cases hlt:t<mk
    ·obtain⟨x,hx⟩:∃x,tl[t]?=some x:=⟨_,List.getElem?_eq_getElem (by have:=j5.o;have:=Nf.MV tl;omega)⟩;have vZ:=Nf.ahF hx (by rw[j5.o];exact hlt);have y0:wr.cell? ⟨gb,off+t1,none⟩=some (.int .i64 x):=hcell t1 _ (by unfold aq;rw[List.getElem?_map,←lV,List.getElem?_cons_succ,hx];rfl);have hC:=uJ.o x wr;obtain⟨cx,Bt⟩:∃cx,Nf.cls x=cx:=⟨_,rfl⟩;rw[Bt] at vZ hC;have Vo:(t1:Int)<(k:Int):=by omega
     have z1:IntKind.i64.wrap ((t1:Int)+1)=((t1+1:Nat):Int):=by rw[IntWalk.i64_in _ (by have:=Hk.o;have:=hlen;omega)];omega
     have HC:=ap hC;clear hx lV Bt hC
     gi_wp2_with (refine⟨trivial,?_⟩;gi_at_call 182;refine (callsIn_wide.2 HC.o).mono ?_;rintro e w2 ⟨rfl,hw2⟩;subst w2)
     go_roundg (mk-(t+1))
     case measure=>have:=lf.o;omega
     case rel=>exact⟨t+1,rfl,hlt,by rw[oh.o];first|rfl|go_num,rfl⟩
    by_cases hek:t1<k
    ·obtain⟨x,hx⟩:∃x,tl[t]?=some x:=⟨_,List.getElem?_eq_getElem (by have:=DN.o;omega)⟩;have vZ:¬0<Nf.cls x:=Nf.ahG (by rw[j5.o,show mk=t by omega];exact hx);have y0:wr.cell? ⟨gb,off+t1,none⟩=some (.int .i64 x):=hcell t1 _ (by unfold aq;rw[List.getElem?_map,←lV,List.getElem?_cons_succ,hx];rfl);have hC:=uJ.o x wr;obtain⟨cx,Bt⟩:∃cx,Nf.cls x=cx:=⟨_,rfl⟩;rw[Bt] at vZ hC;have Vo:(t1:Int)<(k:Int):=by omega
     have HC:=ap hC;clear hx Bt hC;have rL:t=mk:=by omega
     have qP:=ap rL
     have HX:=ap (show Reads wr h0 1 (some ⟨gb,off,none⟩) (r :: Nf.marks tl).length (aq (r :: Nf.marks tl)) by
      have h1:=HR.o.YK (k:=mk+1) UX
      have e1:(aq (r :: tl)).take (mk+1)=aq (r :: Nf.marks tl):=by
       rw[←j5.o];unfold aq;rw[←List.map_take,List.take_succ_cons,Nf.Wv]
      rw[e1] at h1;have e2:(r :: Nf.marks tl).length=mk+1:=by rw[List.length_cons,j5.o]
      rw[e2];exact h1)
     have ku:=HY.o pre ⟨some ⟨gb,off,none⟩,r :: Nf.marks tl⟩ wr Hj.o ⟨HX.o,by simp,by rw[List.length_cons,j5.o];omega⟩ (by omega);unfold CK at ku;dsimp only at ku;rw[show (r :: Nf.marks tl).length=t1 by rw[List.length_cons,j5.o,←oh.o,qP.o]] at ku;obtain⟨fn,tmps,assign,body,hy,lD⟩:=ku;have qE:=ap lD;have ak:0≤(t1:Int)∧(t1:Int)≤(t1:Int)∧(t1:Int)≤(c:Int):=by omega
     have af:0≤(t1:Int)∧(t1:Int)≤(k:Int)∧(k:Int)≤(c:Int):=by omega
     clear lD rL lV
     gi_wp2_with (refine⟨trivial,?_⟩;gi_at_call 182;refine (callsIn_wide.2 HC.o).mono ?_;rintro e w2 ⟨rfl,hw2⟩;subst w2)
     refine qE.o.mono ?_;rintro e W3 ⟨rfl,bY,aI⟩;have gZ:=ap bY;have ry:ae W3 R 164 #[.slice (some ⟨gb,off,none⟩) k c]:=(aI.2 R HB.o.lt (.inr rfl)).trans HB.o;have q3:=ry.cell 0;have f3:=ry.frozen 0;have aw:=ap ry
     have kW:=ap (HR.o.keep (w':=W3) (fun p hp=>by
      unfold World.cell?;rw[aI.2 p.block (by have:=HB.o.lt;omega) (.inl hp)]))
     clear bY aI ry;gi_wp2
     all_goals
      go_roundg (tl.drop mk).length
      case measure=>have:=Hg.o;have:=Hk.o;rw[List.length_drop];rw[List.length_cons] at *;omega
      case rel=>
       have w1:=oh.o;have w2:=qP.o;have w3:=DN.o;have w4:=HB.o.lt;have aT:(tl.drop mk).length=k-t1:=by rw[List.length_drop];omega
       first
        | (
          refine⟨tl.drop mk,f,pre++[⟨some ⟨gb,off,none⟩,r :: Nf.marks tl⟩],some ⟨gb,off+t1,none⟩,c-t1,rfl,by omega,HJ.o _ _ _ gZ.o ((ai.refl R W3).setCell (.inl rfl) _),?_,by rw[aT,List.length_append,List.length_singleton];omega,?_,by omega,?_⟩
          ·rw[←ld.o,Nf.runs,j5.o];simp
          ·rw[aT];have:=aw.o.aH 0 (.slice (some ⟨gb,off+t1,none⟩) (k-t1) (c-t1))
           simpa using this
          rw[aT];have e1:aq (tl.drop mk)=(aq (r :: tl)).drop t1:=by unfold aq;rw[←List.map_drop,←oh.o,qP.o,List.drop_succ_cons]
          rw[e1];refine ((kW.o.EH (k:=t1) (by omega) (some ⟨gb,off+t1,none⟩) (fun h=>?_) (by omega)).keep fun p hp=>?_)
          ·first|rfl|omega
          unfold World.cell?;rw[Below.heap_setCell _ _ _ _ (by show p.block≠R;omega)])
        | (
          refine⟨tl.drop mk,f,pre++[⟨some ⟨gb,off,none⟩,r :: Nf.marks tl⟩],some ⟨gb,off,none⟩,0,rfl,by omega,HJ.o _ _ _ gZ.o ((ai.refl R W3).setCell (.inl rfl) _),?_,by rw[aT,List.length_append,List.length_singleton];omega,?_,by omega,?_⟩
          ·rw[←ld.o,Nf.runs,j5.o];simp
          ·rw[aT];have:=aw.o.aH 0 (.slice (some ⟨gb,off,none⟩) (k-t1) 0)
           simpa using this
          rw[aT];have e1:aq (tl.drop mk)=(aq (r :: tl)).drop t1:=by unfold aq;rw[←List.map_drop,←oh.o,qP.o,List.drop_succ_cons]
          rw[e1];refine ((kW.o.EH (k:=t1) (by omega) (some ⟨gb,off,none⟩) (fun h=>?_) (by omega)).keep fun p hp=>?_)
          ·first|rfl|omega
          unfold World.cell?;rw[Below.heap_setCell _ _ _ _ (by show p.block≠R;omega)])
    have Vo:¬(t1:Int)<(k:Int):=by omega
    have rL:t=mk:=by omega
    have qP:=ap rL
    have HX:=ap (show Reads wr h0 1 (some ⟨gb,off,none⟩) (r :: Nf.marks tl).length (aq (r :: Nf.marks tl)) by
     have h1:=HR.o.YK (k:=mk+1) UX
     have e1:(aq (r :: tl)).take (mk+1)=aq (r :: Nf.marks tl):=by
      rw[←j5.o];unfold aq;rw[←List.map_take,List.take_succ_cons,Nf.Wv]
     rw[e1] at h1;have e2:(r :: Nf.marks tl).length=mk+1:=by rw[List.length_cons,j5.o]
     rw[e2];exact h1)
    have ku:=HY.o pre ⟨some ⟨gb,off,none⟩,r :: Nf.marks tl⟩ wr Hj.o ⟨HX.o,by simp,by rw[List.length_cons,j5.o];omega⟩ (by omega);unfold CK at ku;dsimp only at ku;rw[show (r :: Nf.marks tl).length=t1 by rw[List.length_cons,j5.o,←oh.o,qP.o]] at ku;obtain⟨fn,tmps,assign,body,hy,lD⟩:=ku;have qE:=ap lD;have ak:0≤(t1:Int)∧(t1:Int)≤(t1:Int)∧(t1:Int)≤(c:Int):=by omega
    have af:0≤(t1:Int)∧(t1:Int)≤(k:Int)∧(k:Int)≤(c:Int):=by omega
    clear lD rL lV;gi_wp2;refine⟨trivial,?_⟩;gi_wp2;refine qE.o.mono ?_;rintro e W3 ⟨rfl,bY,aI⟩;have gZ:=ap bY;have ry:ae W3 R 164 #[.slice (some ⟨gb,off,none⟩) k c]:=(aI.2 R HB.o.lt (.inr rfl)).trans HB.o;have q3:=ry.cell 0;have f3:=ry.frozen 0;have aw:=ap ry
    have kW:=ap (HR.o.keep (w':=W3) (fun p hp=>by
     unfold World.cell?;rw[aI.2 p.block (by have:=HB.o.lt;omega) (.inl hp)]))
    clear bY aI ry;gi_wp2
    all_goals
     go_roundg (tl.drop mk).length
     case measure=>have:=Hg.o;have:=Hk.o;rw[List.length_drop];rw[List.length_cons] at *;omega
     case rel=>
      have w1:=oh.o;have w2:=qP.o;have w3:=DN.o;have w4:=HB.o.lt;have aT:(tl.drop mk).length=k-t1:=by rw[List.length_drop];omega
      first
       | (
         refine⟨tl.drop mk,f,pre++[⟨some ⟨gb,off,none⟩,r :: Nf.marks tl⟩],some ⟨gb,off+t1,none⟩,c-t1,rfl,by omega,HJ.o _ _ _ gZ.o ((ai.refl R W3).setCell (.inl rfl) _),?_,by rw[aT,List.length_append,List.length_singleton];omega,?_,by omega,?_⟩
         ·rw[←ld.o,Nf.runs,j5.o];simp
         ·rw[aT];have:=aw.o.aH 0 (.slice (some ⟨gb,off+t1,none⟩) (k-t1) (c-t1))
          simpa using this
         rw[aT];have e1:aq (tl.drop mk)=(aq (r :: tl)).drop t1:=by unfold aq;rw[←List.map_drop,←oh.o,qP.o,List.drop_succ_cons]
         rw[e1];refine ((kW.o.EH (k:=t1) (by omega) (some ⟨gb,off+t1,none⟩) (fun h=>?_) (by omega)).keep fun p hp=>?_)
         ·first|rfl|omega
         unfold World.cell?;rw[Below.heap_setCell _ _ _ _ (by show p.block≠R;omega)])
       | (
         refine⟨tl.drop mk,f,pre++[⟨some ⟨gb,off,none⟩,r :: Nf.marks tl⟩],some ⟨gb,off,none⟩,0,rfl,by omega,HJ.o _ _ _ gZ.o ((ai.refl R W3).setCell (.inl rfl) _),?_,by rw[aT,List.length_append,List.length_singleton];omega,?_,by omega,?_⟩
         ·rw[←ld.o,Nf.runs,j5.o];simp
         ·rw[aT];have:=aw.o.aH 0 (.slice (some ⟨gb,off,none⟩) (k-t1) 0)
          simpa using this
         rw[aT];have e1:aq (tl.drop mk)=(aq (r :: tl)).drop t1:=by unfold aq;rw[←List.map_drop,←oh.o,qP.o,List.drop_succ_cons]
         rw[e1];refine ((kW.o.EH (k:=t1) (by omega) (some ⟨gb,off,none⟩) (fun h=>?_) (by omega)).keep fun p hp=>?_)
         ·first|rfl|omega
         unfold World.cell?;rw[Below.heap_setCell _ _ _ _ (by show p.block≠R;omega)])
end
section
open Go.RowKit Go.WideShapes

attribute [local go_sem] Oper.semAt_some

theorem anK{F:Fence}{N:Nat}{P:Program}(W:World){e:TypeId}{ops:Array Oper}{rest:List Oper}{o:Oper}{a:Act}{Q:Exit→Act→World→Prop}(hgd:o.guard=none)(s x:Operand)(t:TypeId)
  (ho:o.op=.call { callee:=.builtin .append,args:=#[s,x],argTypes:=#[t,t] })
  (base:Nat) (z:Value) (bytes:Nat) (ht:P.underlying t=some (.slice e)) (eL:(P.info? e).map (fun i=>(i.zero,i.size,i.bytes))=some (some z,1,bytes))
  (hzs:z.cells.size=1) (v:Value) (n:Nat) (xs:List Value) (hs:a.eval s=v) (hown:W.ownsRow base e 1 v n xs)
  (B:Nat) (A:Option Addr) (m c:Nat) (cs:List Value) (hr:Reads W B 1 A m cs) (hm:0<m) (h1:∀u∈cs,u.oneCell'=true) (hx:a.eval x=.slice A m c)
  (h63:n+m≤maxLen) (hbytes:(n+m)*bytes≤140737488355328) (hbase:base≤W.heap.size)
  (h:∀g cap w',w'.ownsRow base e 1 (.slice (some ⟨g,0,none⟩) (n+m) cap) (n+m) (xs++cs)→W.grownBy w' v.ownBlock→g<w'.heap.size→base≤g→
   wpListIn F N P ops Q rest (a.put o.dst (.slice (some ⟨g,0,none⟩) (n+m) cap)) w'):wpListIn F N P ops Q (o :: rest) a W:=by
 obtain⟨i,hi,hz,hsize,hby⟩:=info_parts eL;obtain⟨b,off,rfl,_,hc⟩:=hr.2 hm;refine wpListIn_append_own W hgd s x t ho base e i z 1 bytes ht hi hz hsize hby hzs (by omega) v n xs hs hown ⟨b,off,none⟩ m c cs hx (by rw[hr.1]) ?_ h1 h63 hbytes hbase ?_
 ·intro j u hu;have:=hc j u hu;unfold Addr.add;split
  ·subst_vars;exact this
  exact this
 intro v' w' hown' hgrow _;obtain⟨g,cap,hv,hb,hlt⟩:=hown'.form (by omega);subst hv;exact h g cap w' hown' hgrow hlt hb
theorem aiO{w:World}{base g n cap:Nat}{out run:List Int}(h:w.ownsRow base 3 1 (.slice (some ⟨g,0,none⟩) n cap) n (aq (out++run))) :
  ∃post,aV w g out.length (aq out) post run∧∀w' run',aV w' g out.length (aq out) post run'→run'.length=run.length→w'.ownsRow base 3 1 (.slice (some ⟨g,0,none⟩) n cap) n (aq (out++run')):=by
 have hn:(out++run).length=n:=by have:=h.1;rw[ui] at this;omega
 rcases h.2 with ⟨h0,_⟩|⟨g',cap',cur,e,hb,hh,h1,h2,h3,h4⟩
 ·cases h0
 cases e;rw[Nat.mul_one] at h3 h4
 have e:cur.toList=aq out++aq run++cur.toList.drop n:=by
  rw[←iA,←h4,List.take_append_drop]
 refine⟨cur.toList.drop n,⟨?_,ui _⟩,fun w' run' hs hl=>?_⟩
 ·unfold ae;rw[←e];exact hh
 have af:=hs.blk;unfold ae at af;refine⟨by rw[ui,List.length_append,hl,←List.length_append,hn];omega,.inr ⟨g,cap,_,rfl,hb,af,h1,h2,?_,?_⟩⟩
 ·rw[Nat.mul_one,←h3,←Array.length_toList,←Array.length_toList];show (aq out++aq run'++cur.toList.drop n).length=cur.toList.length
  conv=>rhs;rw[e]
  simp only[List.length_append,ui,hl]
 rw[Nat.mul_one];show (aq out++aq run'++cur.toList.drop n).take n=_;rw[←iA];exact List.take_left' (by rw[ui,List.length_append,hl,←List.length_append,hn])
structure sW(w:World)(L:Nat)(pre:List Rn)(W:World):Prop where
 row:∃A c,ae W w.heap.size 164 #[.slice A ((pre.map (·.l)).flatMap Nf.az).length c]∧W.ownsRow (w.heap.size+4) 3 1 (.slice A ((pre.map (·.l)).flatMap Nf.az).length c) ((pre.map (·.l)).flatMap Nf.az).length (aq ((pre.map (·.l)).flatMap Nf.az))
 b:Below w.heap.size w W
 size:w.heap.size+4≤W.heap.size
 len:∀x∈pre,x.l.length≤L
theorem sW.len_{w W:World}{L:Nat}{pre:List Rn}(h:sW w L pre W):((pre.map (·.l)).flatMap Nf.az).length≤pre.length*L:=by
 have hl:=h.len;clear h
 induction pre with
 | nil=>simp
 | cons x pre ih=>
  rw[List.map_cons,List.flatMap_cons,List.length_append,Nf.jC,List.length_cons,Nat.add_mul];have:=hl x (List.mem_cons_self ..);have:=ih fun y hy=>hl y (List.mem_cons_of_mem _ hy);omega
theorem sW.keep{w W W':World}{L:Nat}{pre:List Rn}(h:sW w L pre W)(hb:∀k,k<W.heap.size→k≠w.heap.size+1→k≠w.heap.size+2→k≠w.heap.size+3→W'.heap[k]?=W.heap[k]?)(hs:W.heap.size≤W'.heap.size)(ho:W'.os=W.os∧W'.tape=W.tape∧W'.output=W.output):sW w L pre W':=by
 obtain⟨A,c,hk,ah⟩:=h.row;have hz:=h.size;refine⟨⟨A,c,(hb _ (by omega) (by omega) (by omega) (by omega)).trans hk,?_⟩,⟨ho.1.trans h.b.os,ho.2.1.trans h.b.tape,ho.2.2.trans h.b.output,Nat.le_trans h.b.size hs,fun k hk=>(hb k (by have:=h.b.size;omega) (by omega) (by omega) (by omega)).trans (h.b.block k hk)⟩,by omega,h.len⟩
 rcases ah.2 with h0|⟨g,cap,cur,e,hg,hh,rest⟩
 ·exact⟨ah.1,.inl h0⟩
 exact⟨ah.1,.inr ⟨g,cap,cur,e,hg,(hb g (Array.getElem?_eq_some_iff.1 hh).1 (by omega) (by omega) (by omega)).trans hh,rest⟩⟩
theorem WQ{W w1:World}{b base n0 c1:Nat}{A1:Option Addr}{xs:List Value}(hk:ae W b 164 #[.slice A1 n0 c1])(ah:W.ownsRow base 3 1 (.slice A1 n0 c1) n0 xs)(hg:W.grownBy w1 (Value.slice A1 n0 c1).ownBlock):ae w1 b 164 #[.slice A1 n0 c1] :=
 hk.grown hg (fun e=>bR ah hk (by decide) e.symm)
theorem aiJ{w:World}{base e g n cap:Nat}{xs:List Value}(h:w.ownsRow base e 1 (.slice (some ⟨g,0,none⟩) n cap) n xs):n≤cap:=by
 rcases h.2 with ⟨h0,_⟩|⟨g',cap',cur,e,hb,hh,h1,h2,h3,h4⟩
 ·cases h0
 cases e;exact h1
theorem aiB{w w':World}{g t:Nat}(h:ai g w w')(hg:bN w g t):KeepsOthers w w':=⟨h.size,fun k o hk ho=>by
 refine (h.block k (Array.getElem?_eq_some_iff.1 hk).1 ?_).trans hk;rintro rfl;obtain⟨cs,fr,h2⟩:=hg;rw[hk] at h2;cases h2
 cases ho⟩
theorem alI{w W w1 w3:World}{L g cap c:Nat}{pre:List Rn}{x:Rn}{A:Option Addr}{post:List Value}(B n1:Nat)
  (hk:ae W w.heap.size 164 #[.slice A ((pre.map (·.l)).flatMap Nf.az).length c]) (ah:W.ownsRow (w.heap.size+4) 3 1 (.slice A ((pre.map (·.l)).flatMap Nf.az).length c) ((pre.map (·.l)).flatMap Nf.az).length (aq ((pre.map (·.l)).flatMap Nf.az)))
  (hb:Below w.heap.size w W) (hsz:w.heap.size+4≤W.heap.size) (hlen:∀y∈pre,y.l.length≤L) (hx:x.l.length≤L)
  (pX:n1=((pre.map (·.l)).flatMap Nf.az).length+x.l.length)
  (hg:W.grownBy w1 (Value.slice A ((pre.map (·.l)).flatMap Nf.az).length c).ownBlock) (nC:w.heap.size+4≤g)
  (ho:w1.ownsRow (w.heap.size+4) 3 1 (.slice (some ⟨g,0,none⟩) n1 cap) n1 (aq ((pre.map (·.l)).flatMap Nf.az++x.l)))
  (hback:∀w' run',aV w' g ((pre.map (·.l)).flatMap Nf.az).length (aq ((pre.map (·.l)).flatMap Nf.az)) post run'→run'.length=x.l.length→w'.ownsRow (w.heap.size+4) 3 1 (.slice (some ⟨g,0,none⟩) n1 cap) n1 (aq ((pre.map (·.l)).flatMap Nf.az++run')))
  (hs:aV w3 g ((pre.map (·.l)).flatMap Nf.az).length (aq ((pre.map (·.l)).flatMap Nf.az)) post (Nf.az x.l)) (h3:ai g (w1.setCell ⟨w.heap.size,0,none⟩ (.slice (some ⟨g,0,none⟩) n1 cap)) w3) :
  KeepsFrom B W w3∧vw w.heap.size (w.heap.size+1) W w3∧sW w L (pre++[x]) w3:=by
 have hne:(Value.slice A ((pre.map (·.l)).flatMap Nf.az).length c).ownBlock≠some w.heap.size:=bR ah hk (by decide);have hown:=aD ah;have bZ:ae w1 w.heap.size 164 #[.slice A ((pre.map (·.l)).flatMap Nf.az).length c]:=hk.grown hg (fun e=>hne e.symm)
 have bu:ae (w1.setCell ⟨w.heap.size,0,none⟩ (.slice (some ⟨g,0,none⟩) n1 cap)) w.heap.size 164 #[.slice (some ⟨g,0,none⟩) n1 cap]:=by
  have:=bZ.aH 0 (.slice (some ⟨g,0,none⟩) n1 cap)
  simpa using this
 have aI:=h3.blk bu (by omega)
 have afF:bN (w1.setCell ⟨w.heap.size,0,none⟩ (.slice (some ⟨g,0,none⟩) n1 cap)) g 3:=by
  obtain⟨cs,fr,e⟩:=(aD ho g rfl).2;exact⟨cs,fr,(Below.heap_setCell _ _ _ _ (by show g≠w.heap.size;omega)).trans e⟩
 have FI:W.heap.size≤w1.heap.size:=hg.size;have wI:(w1.setCell ⟨w.heap.size,0,none⟩ (.slice (some ⟨g,0,none⟩) n1 cap)).heap.size=w1.heap.size:=by simp[World.setCell]
 have low:∀k,k<w.heap.size+4→k≠w.heap.size→w3.heap[k]?=W.heap[k]?:=fun k UM h0=>by
  rw[h3.block k (by rw[wI];omega) (by omega),Below.heap_setCell _ _ _ _ (by exact h0),hg.block k (by omega) (fun e=>by have:=(hown k e.symm).1;omega)]
 have agn:W.heap.size≤w3.heap.size:=by have:=h3.size;rw[wI] at this;omega
 refine⟨?_,⟨agn,fun k iT h1=>low k (by omega) (by omega)⟩,?_⟩
 ·refine (((KeepsOthers.of_grownBy hg fun j o ej hj=>?_).trans (KeepsOthers.setCell _ _ _)).trans (aiB h3 afF)).from B;obtain⟨_,cs,fr,h⟩:=hown j ej;rw[h] at hj;cases hj;rfl
 have e1:((pre++[x]).map (·.l)).flatMap Nf.az=(pre.map (·.l)).flatMap Nf.az++Nf.az x.l:=by simp
 have e2:((pre.map (·.l)).flatMap Nf.az++Nf.az x.l).length=n1:=by rw[List.length_append,Nf.jC,pX]
 refine⟨⟨some ⟨g,0,none⟩,cap,?_,?_⟩,⟨?_,?_,?_,by have:=hb.size;omega,fun k iT=>(low k (by omega) (by omega)).trans (hb.block k iT)⟩,by omega,fun y hy=>?_⟩
 ·rw[e1,e2];exact aI
 ·rw[e1,e2];exact hback _ _ hs (Nf.jC _)
 ·exact (h3.os.trans hg.os).trans hb.os
 ·exact (h3.tape.trans hg.tape).trans hb.tape
 ·exact (h3.output.trans hg.output).trans hb.output
 rcases List.mem_append.1 hy with hy|hy
 ·exact hlen y hy
 rw[List.mem_singleton] at hy;subst hy;exact hx
theorem ak3(A:Option Addr)(n c:Nat)(w:World) :
  Calls Tryz.prog 185 #[.slice A n c] w fun e w'=>e=.returned (.func (.func 217) #[] #[.pointer (some ⟨w.heap.size,0,none⟩)])∧w'=w.alloc (.cells #[.slice A n c] 164):=by
 go_enter Tryz.func185,Tryz.ntmps185
 go_wp2;go_ret;exact⟨rfl,rfl⟩
theorem alE(l:List Int)(A:Option Addr)(c:Nat)(w:World)(hr:Reads w w.heap.size 1 A l.length (aq l))(hlc:l.length≤c)(hs:l.length≤4000000) :
  Calls Tryz.prog 133 #[.slice A l.length c] w fun e w'=>∃A' c',e=.returned (.slice A' (Nf.sort l).length c')∧w'.ownsRow w.heap.size 3 1 (.slice A' (Nf.sort l).length c') (Nf.sort l).length (aq (Nf.sort l))∧Below w.heap.size w w':=by
 refine (callsIn_wide (n:=5)).1 ?_;refine callsIn_of_wp_marks Tryz.func133 rfl trivial ?_ rfl;simp only[Tryz.ntmps133,List.size_toArray,List.length_cons,List.length_nil,Nat.reduceAdd,Nat.reduceSub,Array.replicate_succ,Array.replicate_zero,List.push_toArray,List.append_toArray,List.nil_append,List.cons_append];obtain⟨L,hL⟩:∃L,l.length=L:=⟨_,rfl⟩;have HL:=ap hL;rw[hL] at hr hlc hs;rw[hL];have HR:=ap hr;clear hL hr
 gi_wp2_with (refine⟨trivial,?_⟩;gi_at_call 185;refine (callsIn_wide.2 (ak3 _ _ _ _)).mono ?_;rintro e w' ⟨rfl,rfl⟩)
 have fH:ae ((w.alloc (.cells #[.slice none 0 0] 164)).alloc (.cells #[.slice A L c] 164)) (w.heap.size+1) 164 #[.slice A L c]:=by
  have:=ae.new (w.alloc (.cells #[.slice none 0 0] 164)) 164 #[.slice A L c];rwa[World.size_alloc] at this
 have kr:ae ((w.alloc (.cells #[.slice none 0 0] 164)).alloc (.cells #[.slice A L c] 164)) w.heap.size 164 #[.slice none 0 0]:=(ae.new w 164 #[.slice none 0 0]).alloc _;have dc:Below w.heap.size w ((w.alloc (.cells #[.slice none 0 0] 164)).alloc (.cells #[.slice A L c] 164)):=(ay w _).trans ((ay _ _).mono (by simp));have hz2:((w.alloc (.cells #[.slice none 0 0] 164)).alloc (.cells #[.slice A L c] 164)).heap.size=w.heap.size+2:=by simp
 generalize (w.alloc (.cells #[.slice none 0 0] 164)).alloc (.cells #[.slice A L c] 164)=W2 at fH kr dc hz2 ⊢;have eI:=ap (fun o o'=>show sW w L [] ((W2.alloc o).alloc o') from⟨⟨none,0,(kr.alloc o).alloc o',World.ownsRow_nil _ _ _ _⟩,(dc.trans ((ay W2 o).mono (by omega))).trans ((ay (W2.alloc o) o').mono (by simp;omega)),by simp;omega,fun x hx=>by cases hx⟩)
 have mE:∀o o',uB (ai (w.heap.size+1)) Fence.wide (5-1) Tryz.prog 217 #[.pointer (some ⟨w.heap.size+1,0,none⟩)] CK (vw w.heap.size (w.heap.size+1)) (fun x W'=>Reads W' w.heap.size 1 x.A x.l.length (aq x.l)∧0<x.l.length∧x.l.length≤L) (fun xs=>xs.map (·.l)=Nf.runs (L+1) l) (L+1) ((W2.alloc o).alloc o'):=by
  intro o o'
  have h:=ak2 (5-1) (by omega) (w.heap.size+1) w.heap.size A c l (by rw[HL.o];omega) ((W2.alloc o).alloc o') (by omega) (by rw[HL.o];exact (fH.alloc o).alloc o') (by rw[HL.o];exact hlc) (by rw[HL.o];exact (HR.o.below dc).keep (fun p hp=>by
   unfold World.cell?;rw[Below.heap_alloc _ _ _ (by simp;omega),Below.heap_alloc _ _ _ (by omega)]))
  rw[HL.o] at h;exact h
 have HSt:=ap (fun l pre post g off cap n W h=>alD l pre post g off cap n W h)
 refine Nv (Fr:=ai (w.heap.size+1)) (fun A B h k h1 h2=>h.block k h2 (by omega)) rfl (by omega) (gf:=217) (lb:=#[.pointer (some ⟨w.heap.size+1,0,none⟩)]) rfl trivial (enters_of Tryz.func217 (by kernel_rfl) rfl) (fun _=>rfl)
  mE ?kt ?kb (sW w L) ?ip ?ib ?f eI.o
  (fun x=>{ tmps:=#[.slice A L c,undef,.slice none 0 0,.pointer (some ⟨w.heap.size,0,none⟩),.slice x.A x.l.length x.l.length,undef,.slice A L c,.func (.func 217) #[] #[.pointer (some ⟨w.heap.size+1,0,none⟩)],.slice x.A x.l.length x.l.length,undef,undef,undef,undef,undef,undef,undef,undef,undef,undef],defers:=[] }) ?assign ?body ?done
 case kt=>exact fun h k=>h.trans k
 case kb=>exact fun W o o' h _=>⟨by simp[World.putObj],fun k hk h1=>World.putObj_heap_other (by omega)⟩
 case ip=>
  intro s W o o' h _ _;exact h.keep (fun k h1 h2 h3 h4=>World.putObj_heap_other (by omega)) (by simp[World.putObj]) ⟨rfl,rfl,rfl⟩
 case ib=>
  intro s A B h hb;exact h.keep (fun k h1 h2 h3 h4=>hb.block k h1 h2) hb.size ⟨hb.os,hb.tape,hb.output⟩
 case f=>
  intro x W o h
  exact⟨h.1.keep (fun p hp=>by
   unfold World.cell?;rw[World.putObj_heap_other (by omega)]),h.2⟩
 case assign=>
  intro l x W K hK;unfold CK at *
  gi_wp2;exact hK
 case body=>
  intro l pre x W hI hf hlen hsz;have nI:=hI.len_;obtain⟨⟨A1,c1,hk,ah⟩,hb,oV,iU⟩:=hI;have Hk:=ap hk;have bI:=ap ah;have Hb:=ap hb;have Ad:=ap iU;have q0:=hk.cell 0;have HF:=ap hf;obtain⟨out,hout⟩:∃out,(pre.map (·.l)).flatMap Nf.az=out:=⟨_,rfl⟩;have Jp:=ap hout;rw[hout] at q0 nI;have Jt:=ap (hout▸ah:W.ownsRow (w.heap.size+4) 3 1 (.slice A1 out.length c1) out.length (aq out));obtain⟨m,hm⟩:∃m,x.l.length=m:=⟨_,rfl⟩;have Hm:=ap hm;have rH:0<m:=by rw[←hm];exact hf.2.1
  have hmL:m≤L:=by rw[←hm];exact hf.2.2
  have hX:=hf.1;rw[hm] at hX;have HX:=ap hX;obtain⟨n0,oO⟩:∃n0,out.length=n0:=⟨_,rfl⟩;rw[oO] at q0 nI Jt;have QN:=ap oO;have Hk1:=ap (show ae W w.heap.size 164 #[.slice A1 n0 c1] by have h:=Hk.o;rw[hout,oO] at h;exact h)
  have ape:n0≤16000004000000:=by
   refine Nat.le_trans nI (Nat.le_trans (Nat.mul_le_mul (Nat.le_of_lt hlen) (Nat.le_refl L)) ?_);exact Nat.le_trans (Nat.mul_le_mul (Nat.succ_le_succ hs) hs) (by omega)
  have Mi:w.heap.size+4≤W.heap.size:=oV;rw[hm];have HFz:=ap (hk.frozen 0);clear hk ah hb iU hf hout hm hX oO mE fH kr dc eI
  gi_wp2_with (gi_at_builtin;go_loud (refine anK W rfl (.tmp 11) (.tmp 12) 164 rfl (w.heap.size+4) (.int .i64 0) 8 Tryz.underlying164 fM rfl _ n0 (aq out) rfl Jt.o w.heap.size x.A m m (aq x.l) HX.o rH (F7 _) rfl (by unfold maxLen;omega) (by omega) Mi ?_);intro g cap w1 lQ hg1 fX ak;obtain⟨n1,pX⟩:∃n1,n0+m=n1:=⟨_,rfl⟩;rw[pX] at lQ ⊢;have sP:=ap pX;have Ji:=ap hg1;have eR:=ap (show w1.ownsRow (w.heap.size+4) 3 1 (.slice (some ⟨g,0,none⟩) n1 cap) n1 (aq (out++x.l)) from (iA out x.l).symm▸lQ);have bZ:=WQ Hk1.o Jt.o hg1;have q1:=bZ.cell 0;have f1:=bZ.frozen 0;have hz1:w.heap.size+4≤w1.heap.size:=Nat.le_trans Mi hg1.size;have yi:=aiJ lQ;have rM:0≤(n0:Int)∧(n0:Int)≤(n1:Int)∧(n1:Int)≤(cap:Int):=(by omega);have nC:w.heap.size+4≤g:=ak;have LZ:n0<cap:=(by omega);clear lQ hg1 bZ pX ak)
  obtain⟨post,fL,hback⟩:=aiO eR.o;have LV:n1-n0=m:=by have:=sP.o;omega
  rw[LV];have hgo:g≠w.heap.size:=by omega
  have T9:aV (w1.setCell ⟨w.heap.size,0,none⟩ (.slice (some ⟨g,0,none⟩) n1 cap)) g n0 (aq out) post x.l:=by
   have h1:=fL.y7;exact⟨fL.blk.far (by exact hgo) _,by rw[ui];exact QN.o⟩
  have sJ:=ap (HSt.o x.l (aq out) post g n0 (cap-n0) m _ T9 Hm.o.symm (by omega));refine⟨trivial,?_⟩;refine (callsIn_wide.2 sJ.o).mono ?_;rintro e w3 ⟨rfl,kJ,aA⟩;have kW:=ap kJ;have aw:=ap aA;have uH:=ap hback;clear fL hback T9 kJ aA q1 f1 q0;gi_wp2;have hO:=Jp.o;have hN:=QN.o;subst hO;have hst:=alI (L:=L) (cap:=cap) (x:=x) (post:=post) W2.heap.size n1 Hk.o bI.o Hb.o Mi Ad.o HF.o.2.2 (by rw[hN,Hm.o,sP.o]) (by rw[hN];exact Ji.o) nC eR.o uH.o (by rw[hN];exact kW.o) aw.o;exact hst
 case done=>
  intro D xs W hD fg hI hK;obtain⟨⟨A1,c1,hk,ah⟩,hb,oV,iU⟩:=hI
  have e1:(xs.map (·.l)).flatMap Nf.az=Nf.sort l:=by
   unfold Nf.sort;rw[fg,HL.o]
  rw[e1] at hk ah;have q0:=hk.cell 0;have HK:=ap hK;have bI:=ap ah;have Hb:=ap hb;have ES:D=w.heap.size+2:=by omega
  clear hk ah hb iU hK mE eI fH kr dc;gi_wp2;refine⟨by simp,.inl ⟨_,_,rfl,run_takeDeferred (w:=W) HK.o,?_⟩⟩;refine⟨.slice A1 (Nf.sort l).length c1,?_,?_⟩
  ·simp[results,Tryz.results133,go_sem]
  refine⟨A1,c1,rfl,?_,?_⟩
  ·have h:=bI.o
   rcases h.2 with h0|⟨g,cap,cur,e,hg,hh,rest⟩
   ·exact⟨h.1,.inl h0⟩
   exact⟨h.1,.inr ⟨g,cap,cur,e,by omega,(World.putObj_heap_other (by omega)).trans hh,rest⟩⟩
  exact⟨Hb.o.os,Hb.o.tape,Hb.o.output,Nat.le_trans Hb.o.size (by simp[World.putObj]),fun k hk=>(World.putObj_heap_other (by omega)).trans (Hb.o.block k hk)⟩
end
section
open Go.RowKit Go.WideShapes

attribute [local go_sem] Oper.semAt_some

def nd(W:World)(k:Nat):Prop:=∃cs t fr,W.heap[k]?=some (.cells cs t fr)
theorem nd.WR{W:World}{g i:Nat}{u:Value}(h:W.cell? ⟨g,i,none⟩=some u):nd W g:=by
 unfold World.cell? at h;dsimp only at h
 split at h
 ·rename_i cs t fr e;exact⟨cs,t,fr,e⟩
 cases h
theorem nd.lt{W:World}{k:Nat}(h:nd W k):k<W.heap.size:=by
 obtain⟨cs,t,fr,h⟩:=h;exact (Array.getElem?_eq_some_iff.1 h).1
def iN(Ob:Nat)(W:World)(k:Nat):Prop:=∃n c,ae W Ob 164 #[.slice (some ⟨k,0,none⟩) n c]
structure Kq(Ob:Nat)(W W':World):Prop where
 size:W.heap.size≤W'.heap.size
 keep:∀k,nd W k→k≠Ob→¬iN Ob W k→W'.heap[k]?=W.heap[k]?
 ptr:∀k,iN Ob W' k→iN Ob W k∨W.heap.size≤k
 lt:(∀k,iN Ob W k→k<W.heap.size)→∀k,iN Ob W' k→k<W'.heap.size
theorem Kq.trans{Ob:Nat}{X Y Z:World}(h:Kq Ob X Y)(k:Kq Ob Y Z):Kq Ob X Z:=by
 refine⟨Nat.le_trans h.size k.size,fun i hc hne hp=>?_,fun i hp=>?_,fun hl=>k.lt (h.lt hl)⟩
 ·have e:=h.keep i hc hne hp;refine (k.keep i ?_ hne fun jK=>?_).trans e
  ·obtain⟨cs,t,fr,hc⟩:=hc;exact⟨cs,t,fr,e.trans hc⟩
  rcases h.ptr i jK with h1|h1
  ·exact hp h1
  have:=hc.lt;omega
 rcases k.ptr i hp with h1|h1
 ·exact h.ptr i h1
 exact .inr (Nat.le_trans h.size h1)
theorem Kq.put{Ob l:Nat}{W:World}{o o':Obj}(hl:W.heap[l]?=some o')(hc:o'.isCells=false)(hne:Ob≠l):Kq Ob W (W.putObj l o):=by
 have hO:(W.putObj l o).heap[Ob]?=W.heap[Ob]?:=World.putObj_heap_other hne;have hp:∀k,iN Ob (W.putObj l o) k→iN Ob W k:=fun k ⟨n,c,h⟩=>⟨n,c,hO.symm.trans h⟩;refine⟨by simp[World.putObj],fun k hk _ _=>World.putObj_heap_other ?_,fun k h=>.inl (hp k h),fun h k hk=>by have:=h k (hp k hk);simp[World.putObj];exact this⟩;rintro rfl;obtain⟨cs,t,fr,e⟩:=hk;rw[hl] at e;cases e;cases hc
theorem iN.of_eq{Ob:Nat}{W W':World}{k:Nat}(h:iN Ob W' k)(e:W'.heap[Ob]?=W.heap[Ob]?):iN Ob W k:=by
 obtain⟨n,c,h⟩:=h;exact⟨n,c,e.symm.trans h⟩
structure oq(Ob:Nat)(W:World)(A:Option Addr)(l:List Int):Prop where
 is:0<l.length→∃gp off,A=some ⟨gp,off,none⟩∧gp≠Ob∧¬iN Ob W gp∧∀i y,l[i]?=some y→W.cell? ⟨gp,off+i,none⟩=some (.int .i64 y)
theorem oq.kq{Ob:Nat}{W W':World}{A:Option Addr}{l:List Int}(h:oq Ob W A l)(k:Kq Ob W W'):oq Ob W' A l:=⟨fun hl=>by
 obtain⟨gp,off,e,h1,h2,h3⟩:=h.is hl;have hc:nd W gp:=nd.WR (h3 0 l[0] (List.getElem?_eq_getElem hl));have hk:=k.keep gp hc h1 h2;refine⟨gp,off,e,h1,fun hp=>?_,fun i y hy=>?_⟩
 ·rcases k.ptr gp hp with h4|h4
  ·exact h2 h4
  have:=hc.lt;omega
 have:=h3 i y hy;unfold World.cell? at this ⊢;dsimp only at this ⊢;rwa[hk]⟩
theorem oq.below{Ob:Nat}{W W':World}{A:Option Addr}{l:List Int}(h:oq Ob W A l)(hO:Ob<W.heap.size)(k:Below W.heap.size W W'):oq Ob W' A l:=⟨fun hl=>by
 obtain⟨gp,off,e,h1,h2,h3⟩:=h.is hl;have hc:nd W gp:=nd.WR (h3 0 l[0] (List.getElem?_eq_getElem hl));refine⟨gp,off,e,h1,fun hp=>h2 (hp.of_eq (k.block Ob hO)),fun i y hy=>(k.cell (p:=⟨gp,off+i,none⟩) hc.lt).trans (h3 i y hy)⟩⟩
theorem ajl{Ob M cp:Nat}{W w2:World}{Ap:Option Addr}{l:List Int}(ho:w2.ownsRow W.heap.size 3 1 (.slice Ap M cp) M (aq l))(hM:l.length=M)(hO:Ob<W.heap.size)(hp:∀k,iN Ob W k→k<W.heap.size)(hb:Below W.heap.size W w2):oq Ob w2 Ap l:=⟨fun hl=>by
 obtain⟨b,off,e,_,hc⟩:=(Reads.cY ho).2 (by omega);obtain⟨g,cap,hv,hg,_⟩:=ho.form (by omega);injection hv with hA
 rw[hA] at e;injection e with e
 injection e with e1 e2
 subst e1;refine⟨g,off,by rw[hA,e2],by omega,fun h=>?_,fun i y hy=>hc i _ (by unfold aq;rw[List.getElem?_map,hy];rfl)⟩;have:=hp g (h.of_eq (hb.block Ob hO))
 omega⟩
theorem ai3(n:Nat)(hn:1≤n)(Bs Ob:Nat)(A0:Option Addr)(c0:Nat)(ls:List Int)(hs:ls.length≤1000000)(W:World)(hc:ae W Bs 164 #[.slice A0 ls.length c0])(hO:Ob<W.heap.size)(hp:∀k,iN Ob W k→k<W.heap.size)
  (lT:oq Ob W A0 ls) (bK:∀x∈ls,Nf.Ok x) :
  uB (ai Bs) Fence.wide n Tryz.prog 183 #[.pointer (some ⟨Bs,0,none⟩)] (fun x:Int=>#[.int .i64 x]) (Kq Ob) (fun x _=>Nf.Ok x) (fun xs=>xs=Nf.bU ls) (16*ls.length+1) W:=by
 intro l J hJ tC hY;refine callsIn_of_wp Tryz.func183 rfl trivial ?_ rfl;simp only[Tryz.ntmps183,List.size_toArray,List.length_cons,List.length_nil,Nat.reduceAdd,Nat.reduceSub,Array.replicate_succ,Array.replicate_zero,List.push_toArray,List.append_toArray,List.nil_append,List.cons_append];obtain⟨N,hN⟩:∃N,ls.length=N:=⟨_,rfl⟩;rw[hN] at hs hc;have HN:=ap hN;have HJ:=ap hJ;have HY:=ap hY;have H0:=ap tC;have IW:=ap lT;have ic:=ap bK;have HP:=ap hp;have HOl:=ap hO;have q0:=hc.cell 0;clear hJ hY tC hc lT bK hp hO hN;gi_wp2
 gi_loopg [9] N (fun g v9 wr=>∃(j:Nat),g=N-j∧j≤N∧v9=.int .i64 (j:Int)∧J (Nf.bU (ls.take j)) wr∧oq Ob wr A0 ls∧(∀k,iN Ob wr k→k<wr.heap.size)∧Ob<wr.heap.size)
 case atStart=>exact⟨0,rfl,by omega,rfl,H0.o,IW.o,HP.o,HOl.o⟩
 case round=>
  obtain⟨j,hg,hj,rfl,TJ,lT,Vb,TV⟩:=hrel;have Hg:=ap hg;have Hj:=ap TJ;have HR:=ap lT;have zQ:=ap Vb;have Du:=ap TV;clear hg TJ lT Vb TV
  by_cases hlt:j<N
  ·obtain⟨r,hr⟩:∃r,ls[j]?=some r:=⟨_,List.getElem?_eq_getElem (by rw[HN.o];exact hlt)⟩;obtain⟨gb,off,rfl,_,_,hcell⟩:=HR.o.is (by rw[HN.o];omega);have y0:=hcell j r hr;have HD:=ap (Nf.Kf hr);have Vi:=ic.o r (List.mem_of_getElem? hr);have Qa:=ap (ai4 r wr Vi);have HPo:=ap (Nf.ai7 Vi);have iU:=Nf.xQ (ls.take (j+1));rw[HD.o,List.length_append] at iU;have afO:(Nf.bU (ls.take j)).length+(Nf.parts r).length≤16*N:=Nat.le_trans iU (Nat.mul_le_mul (Nat.le_refl _) (by rw[List.length_take];have:=HN.o;omega));obtain⟨M,hM⟩:∃M,(Nf.parts r).length=M:=⟨_,rfl⟩;rw[hM] at Qa afO;have HM:=ap hM;clear hcell hr hM iU
   gi_wp2_with (refine⟨trivial,?_⟩;gi_at_call 184;refine (callsIn_wide.2 Qa.o).mono ?_;rintro e w2 ⟨Ap,cp,rfl,ho,hb⟩;have ag:=ap hb;have HRp:=ap (ajl ho HM.o Du.o zQ.o hb);clear ho hb)
   have Hj2:=ap (HJ.o _ _ _ Hj.o (ai.b8 (R:=Bs) ag.o));have dF:=ap (HR.o.below Du.o ag.o);have aay:=ap (show ∀k,iN Ob w2 k→k<w2.heap.size from fun k h=>Nat.lt_of_lt_of_le (zQ.o k (h.of_eq (ag.o.block Ob Du.o))) ag.o.size);have aaq:=ap (show Ob<w2.heap.size from Nat.lt_of_lt_of_le Du.o ag.o.size);clear y0
   gi_loopg [16] M (fun g v16 wq=>∃(t:Nat),g=M-t∧t≤M∧v16=.int .i64 (t:Int)∧J (Nf.bU (ls.take j)++(Nf.parts r).take t) wq∧oq Ob wq (some ⟨gb,off,none⟩) ls∧oq Ob wq Ap (Nf.parts r)∧(∀k,iN Ob wq k→k<wq.heap.size)∧Ob<wq.heap.size)
   case atStart=>exact⟨0,rfl,by omega,rfl,by simpa using Hj2.o,dF.o,HRp.o,aay.o,aaq.o⟩
   case round=>
    obtain⟨t,fV,htM,rfl,TK,Vh,Vj,Vc,TW⟩:=hrel;have lf:=ap fV;have QD:=ap TK;have kW:=ap Vh;have Qf:=ap Vj;have Qd:=ap Vc;have PW:=ap TW;clear fV TK Vh Vj Vc TW
    by_cases dg:t<M
    ·obtain⟨y,hy⟩:∃y,(Nf.parts r)[t]?=some y:=⟨_,List.getElem?_eq_getElem (by rw[HM.o];exact dg)⟩;obtain⟨gp,ap4,rfl,_,_,vY⟩:=Qf.o.is (by rw[HM.o];omega);have y1:=vY t y hy;have VG:=HPo.o y (List.mem_of_getElem? hy);have ku:=HY.o (Nf.bU (ls.take j)++(Nf.parts r).take t) y wr QD.o VG (by rw[List.length_append,List.length_take];have:=HM.o;have:=HN.o;omega);obtain⟨fn,tmps,assign,body,hyy,lD⟩:=ku;have Hy:=ap hy;have qE:=ap lD;clear vY VG hy lD;gi_wp2;refine qE.o.mono ?_;rintro e W3 ⟨rfl,bY,aI⟩;have gZ:=ap bY;have br:=ap aI;clear bY aI y1;gi_wp2
     go_roundg (M-(t+1))
     case measure=>have:=lf.o;omega
     case rel=>exact⟨t+1,rfl,by omega,by first|rfl|go_num,by rw[ux Hy.o,←List.append_assoc];exact gZ.o,kW.o.kq br.o,Qf.o.kq br.o,br.o.lt Qd.o,Nat.lt_of_lt_of_le PW.o br.o.size⟩
    have Mm:t=M:=by omega
    have Htm:=ap Mm;clear Mm;gi_wp2
    go_roundg (N-(j+1))
    case measure=>have:=Hg.o;omega
    case rel=>
     have h1:=QD.o;rw[List.take_of_length_le (l:=Nf.parts r) (by rw[HM.o,Htm.o];exact Nat.le_refl _),←HD.o] at h1;exact⟨j+1,rfl,by omega,by first|rfl|go_num,h1,kW.o,Qd.o,PW.o⟩
  gi_wp2;go_end0;have oN:j=N:=by omega
  have h1:=Hj.o;rw[List.take_of_length_le (by rw[HN.o];omega)] at h1;exact⟨⟨_,rfl⟩,_,rfl,h1⟩
end
end Go.Proofs.YtpdkeckeekchlaaGreatDoor
