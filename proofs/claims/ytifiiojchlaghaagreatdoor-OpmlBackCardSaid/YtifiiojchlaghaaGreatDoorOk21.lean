/- NFC: keys that are pairs of numbers; the elements that are pairs. And more. -/
import Derived.Test.YtifiiojchlaghaaGreatDoorOk20
import Derived.Maps.Own
import Derived.Maps.OwnOps
import Derived.Maps.OwnSet
import Derived.Maps.RangeWalk
import Derived.Maps.Ext
import Derived.Maps.Views
import Derived.DeepKeys4
import Derived.Deep.LoopGhost
import Derived.Laws.RangeAny
import Derived.Lib.OthersKept
import Derived.WalkSmall
import Derived.DataShut
set_option linter.unusedSimpArgs false
set_option maxRecDepth 100000
set_option maxHeartbeats 8000000
set_option linter.unusedVariables false
namespace Go.Proofs.YtifiiojchlaghaaGreatDoor
section
open Go.RowKit Go.WideShapes

theorem laidOut_n:laidOutB Tryz.prog=true:=by kernel_rfl
theorem row_pr:(219:TypeId)<Tryz.prog.types.size:=of_decide_eq_true (by kernel_rfl)
theorem at_pr:Tryz.prog.keyTypeAt 2 219=true:=by kernel_rfl
theorem key_pr:WideMaps.KeyLaw Tryz.prog 219:=deep_law_laid laidOut_n (m:=2) (by decide) row_pr at_pr (by rw[Tryz.underlying219])
theorem law_pr:Maps.Keyed Tryz.prog 219:=Maps.Keyed.of_law key_pr
theorem law_int:Maps.Keyed Tryz.prog 3:=Maps.int_keyed Tryz.underlying3
theorem cells_pr:Tryz.prog.cellsOf 219=2:=by kernel_rfl
theorem cells_i:Tryz.prog.cellsOf 3=1:=by kernel_rfl
theorem keyT_pr:Tryz.prog.keyType 219=true:=by kernel_rfl
theorem types_pr:∃m,Tryz.prog.types.size=m+1:=by
 have h:=row_pr;generalize Tryz.prog.types.size=s at h
 cases s with
 | zero=>cases h
 | succ m=>exact⟨m,rfl⟩
def prV(x:Int×Int):Value:=.agg #[.int .i64 x.1,.int .i64 x.2]
def klP(x:Int×Int):Lit:=.string (keyBytes [.int .i64 x.1,.int .i64 x.2])
def Wf2(x:Int×Int):Prop:=(Lit.int .i64 x.1).wf=true∧(Lit.int .i64 x.2).wf=true
theorem keyOf_pr{x:Int×Int}(h:Wf2 x):keyOf Tryz.prog 219 (prV x)=some (klP x):=by
 obtain⟨m,hm⟩:=types_pr;obtain⟨h1,h2⟩:=h;unfold keyOf prV;simp only[Tryz.underlying219];rw[if_pos (by simp[keyT_pr,Value.formed,Tryz.underlying219,cells_pr]),hm];unfold Program.keyLits;simp only[Tryz.underlying219,Value.cells];simp[cells_pr,cells_i,Program.keyLits,Tryz.underlying3,h1,h2,List.range_succ,List.mapM_cons,klP]
theorem prV_inj{x y:Int×Int}(h:prV x=prV y):x=y:=by
 unfold prV at h;simp only[Value.agg.injEq,Array.mk.injEq,List.cons.injEq,Value.int.injEq,true_and,and_true] at h;exact Prod.ext h.1 h.2
theorem klP_inj{x y:Int×Int}(hx:Wf2 x)(hy:Wf2 y)(h:klP x=klP y):x=y :=
 prV_inj (key_pr.inj (keyOf_pr hx) (by rw[h];exact keyOf_pr hy))
def pairE:List Value→Option (DataW Unit×List MemPlace)
 | [.int .i64 a,.int .i64 b]=>some (.agg [.lit (.int .i64 a),.lit (.int .i64 b)],[])
 | _=>none
def pairElem(v:Value):Option (DataW Unit×List MemPlace):=match v with
 | .agg cs=>pairE cs.toList
 | _=>none
def prD(x:Int×Int):DataW Unit:=.agg [.lit (.int .i64 x.1),.lit (.int .i64 x.2)]
theorem pairElem_mk(x:Int×Int):pairElem (prV x)=some (prD x,[]):=rfl
theorem pairElem_inv{v:Value}{y:DataW Unit×List MemPlace}(h:pairElem v=some y):∃x,v=prV x∧y=(prD x,[]):=by
 unfold pairElem at h
 split at h
 ·rename_i cs
  unfold pairE at h
  split at h
  ·rename_i a b he
   cases h;refine⟨(a,b),?_,rfl⟩;unfold prV;congr 1;exact Array.ext' he
  cases h
 cases h
theorem two_cells{c:List Value}(h:c.length=2):∃c0 c1,c=[c0,c1]:=by
 match c,h with
 | [c0,c1],_=>exact⟨c0,c1,rfl⟩
theorem keyLit_int{m:Nat}{c:Value}{x:List Lit}(h:Tryz.prog.keyLits (m+1) 3 [c]=some x):∃z,c=.int .i64 z∧(Lit.int .i64 z).wf=true∧x=[.int .i64 z]:=by
 cases c<;>simp[Program.keyLits,Tryz.underlying3] at h
 obtain⟨⟨rfl,hw⟩,rfl⟩:=h;exact⟨_,rfl,hw,rfl⟩
theorem keyOf_pr_inv{key:Value}{kl:Lit}(h:keyOf Tryz.prog 219 key=some kl):∃x,Wf2 x∧key=prV x∧kl=klP x:=by
 obtain⟨m,hm⟩:=types_pr;unfold keyOf at h;simp only[Tryz.underlying219] at h
 split at h
 ·rename_i hf
  rw[hm] at h;simp only[Bool.and_eq_true] at hf;obtain⟨ls,hl,rfl⟩:=Option.map_eq_some_iff.1 h;have hsz:2≤Tryz.prog.types.size:=Nat.succ_le_of_lt (Nat.lt_of_le_of_lt (Nat.succ_le_of_lt (Nat.pos_of_ne_zero (by decide:(219:Nat)≠0))) row_pr);obtain⟨m',rfl⟩:∃m',m=m'+1:=⟨m-1,by omega⟩;unfold Program.keyLits at hl;simp only[Tryz.underlying219] at hl
  split at hl
  ·rename_i hc
   rw[cells_pr] at hc;have hfo:=hf.2;simp only[Value.formed,Tryz.underlying219,cells_pr] at hfo
   split at hfo
   ·rename_i cs
    obtain⟨c⟩:=cs;simp only[Value.cells] at hc hl;obtain⟨c0,c1,rfl⟩:=two_cells hc;simp only[cells_i,List.range_succ,List.range_zero,List.nil_append,List.cons_append,List.mapM_cons,List.mapM_nil] at hl;simp only[Nat.zero_mul,Nat.one_mul,List.drop_zero,List.take_succ_cons,List.take_zero,List.drop_succ_cons] at hl;obtain⟨k0,h0⟩:=Option.map_eq_some_iff.1 hl;obtain⟨h0,hk⟩:=h0
    cases e0:Tryz.prog.keyLits (m'+2) 3 [c0] with
    | none=>rw[e0] at h0;cases h0
    | some x0=>
     cases e1:Tryz.prog.keyLits (m'+2) 3 [c1] with
     | none=>rw[e0,e1] at h0;cases h0
     | some x1=>
      rw[e0,e1] at h0;cases h0;obtain⟨z0,rfl,w0,rfl⟩:=keyLit_int e0;obtain⟨z1,rfl,w1,rfl⟩:=keyLit_int e1;refine⟨(z0,z1),⟨w0,w1⟩,rfl,?_⟩;rw[←hk];rfl
   ·cases hfo
   cases hfo
  cases hl
 cases h
end
section
open Go.RowKit Go.WideShapes

inductive Runes (s:ByteArray):Nat→List Int→Prop
 | nil (pos:Nat) (h:¬pos<s.size):Runes s pos []
 | cons (pos:Nat) (r:Int) (l:List Int) (h:pos<s.size) (hr:(Utf8.decode s pos).1=r) (hl:Runes s (pos+(Utf8.decode s pos).2) l):Runes s pos (r :: l)
structure PM(w:World)(b n:Nat)(l:List ((Int×Int)×Int))(D:DataW Unit):Prop where
 own:w.ownsMap Tryz.prog 219 (plainElem Tryz.prog 3) b n D
 is:Maps.IsMap D
 at_:∀x,Wf2 x→D.atKey (klP x) (.lit (.int .i64 0))=.lit (.int .i64 ((Nf.lookW x l).getD 0))
 has:∀x,Wf2 x→Maps.has D (klP x)=(Nf.lookW x l).isSome
theorem lookW_snoc(x y:Int×Int)(w:Int):∀l,Nf.lookW x (l++[(y,w)])=if (Nf.lookW x l).isSome then Nf.lookW x l else if y=x then some w else none
 | []=>by simp[Nf.lookW]
 | z :: l=>by
  rw[List.cons_append,Nf.lookW,Nf.lookW];split
  ·simp
  exact lookW_snoc x y w l
theorem PM.next{w w':World}{b n:Nat}{l:List ((Int×Int)×Int)}{D:DataW Unit}{x:Int×Int}{v:Int}(h:PM w b n l D)(hx:Wf2 x)(hn:Nf.lookW x l=none)(ho:w'.ownsMap Tryz.prog 219 (plainElem Tryz.prog 3) b (n+1) (D.put (klP x) (.lit (.int .i64 v)))):PM w' b (n+1) (l++[(x,v)]) (D.put (klP x) (.lit (.int .i64 v))):=by
 refine⟨ho,h.is.put _ _,fun y hy=>?_,fun y hy=>?_⟩
 ·by_cases hm:y=x
  ·subst hm;rw[Maps.atKey_put_same h.is (by simp[WideAt.IsKeyLit,klP]),lookW_snoc,hn];simp
  rw[Maps.atKey_put_other (fun e=>hm (klP_inj hy hx e)),h.at_ y hy,lookW_snoc,if_neg (fun e:x=y=>hm e.symm)]
  cases Nf.lookW y l<;>rfl
 by_cases hm:y=x
 ·subst hm;rw[Maps.has_put_same h.is (by simp[WideAt.IsKeyLit,klP]),lookW_snoc,hn];simp
 rw[Maps.has_put_other (fun e=>hm (klP_inj hy hx e)),h.has y hy,lookW_snoc,if_neg (fun e:x=y=>hm e.symm)]
 cases Nf.lookW y l<;>rfl
theorem map_sameN{w w':World}{P:Program}{k:TypeId}{R:Value→Option (DataW Unit×List MemPlace)}{b n:Nat}{D:DataW Unit}(h:w.ownsMap P k R b n D)(e:w'.heap[b]?=w.heap[b]?):w'.ownsMap P k R b n D:=by
 obtain⟨es,clock,hb,rest⟩:=h;exact⟨es,clock,e.trans hb,rest⟩
theorem PM.go{w w':World}{b n:Nat}{l:List ((Int×Int)×Int)}{D:DataW Unit}(h:PM w b n l D)(hb:w'.heap[b]?=w.heap[b]?):PM w' b n l D:=⟨map_sameN h.own hb,h.is,h.at_,h.has⟩
theorem PM.nil(w:World):PM (w.alloc (.map #[] 0)) w.heap.size 0 [] (.map []):=⟨World.ownsMap_made _ _ _ _,Maps.isMap_empty,fun _ _=>rfl,fun _ _=>rfl⟩
def intVs(l:List Int):List Value:=l.map fun z=>.int .i64 z
theorem lookW_app(x:Int×Int):∀l m,Nf.lookW x l=none→Nf.lookW x (l++m)=Nf.lookW x m
 | [],_,_=>rfl
 | z :: l,m,h=>by
  rw[Nf.lookW] at h;rw[List.cons_append,Nf.lookW]
  split at h
  ·cases h
  rename_i hz
  rw[if_neg hz];exact lookW_app x l m h
theorem lookW_row(a mark:Int):∀ls ws,a∉ls→Nf.lookW (a,mark) (Nf.rowOf mark ls ws)=none
 | [],_,_=>by rw[Nf.rowOf];rfl;intro _ _ _ _ h;cases h
 | x :: ls,[],_=>by rw[Nf.rowOf];rfl;intro _ _ _ _ _ h;cases h
 | x :: ls,v :: ws,h=>by
  rw[Nf.rowOf,Nf.lookW,if_neg (fun e=>h (by cases e;exact List.mem_cons_self ..))];exact lookW_row a mark ls ws fun hm=>h (List.mem_cons_of_mem _ hm)
theorem rowOf_next(mark:Int):∀(ls ws:List Int) (j:Nat) (a v:Int),ls[j]?=some a→ws[j]?=some v→Nf.rowOf mark (ls.take (j+1)) (ws.take (j+1))=Nf.rowOf mark (ls.take j) (ws.take j)++[((a,mark),v)]
 | [],_,_,_,_,h,_=>by cases h
 | _ :: _,[],_,_,_,_,h=>by cases h
 | x :: ls,y :: ws,0,a,v,h1,h2=>by cases h1;cases h2;rfl
 | x :: ls,y :: ws,j+1,a,v,h1,h2=>by
  show _ :: Nf.rowOf mark (ls.take (j+1)) (ws.take (j+1))=_;rw[rowOf_next mark ls ws j a v h1 h2];rfl
theorem wf_i64r{a:Int}(h:(Lit.int .i64 a).wf=true):-9223372036854775808≤a∧a≤9223372036854775807:=by
 have:=(Go.Lit.wf_int_iff .i64 a).1 h;exact this
theorem But.iterAtN{R k:Nat}{w w1:World}(h:But R w w1)(hk:w.heap.size≤k):∀(s:ByteArray) (q:Nat),But R w (w1.iterAt k s q):=fun s q=>
 ⟨h.os,h.tape,h.output,by rw[Lib.iterAt_size];exact h.size,fun j hj hne=>(Lib.iterAt_other _ _ _ _ _ (by omega)).trans (h.block j hj hne)⟩
theorem But.cellN{R g:Nat}{w w1:World}(h:But R w w1)(hg:g<w.heap.size)(hne:g≠R)(i:Nat):w1.cell? ⟨g,i,none⟩=w.cell? ⟨g,i,none⟩:=by
 unfold World.cell?;dsimp only;rw[h.block g hg hne]
theorem But.grownN{R:Nat}{w w1 w2:World}(h:But R w w1)(hg:w1.grownBy w2 (some R)):But R w w2 :=
 ⟨hg.os.trans h.os,hg.tape.trans h.tape,hg.output.trans h.output,Nat.le_trans h.size hg.size,fun k hk hne=>(hg.block k (Nat.lt_of_lt_of_le hk h.size) (fun e=>hne (Option.some.inj e))).trans (h.block k hk hne)⟩
theorem rowOf_more(mark:Int):∀(ls ws:List Int),Nf.rowOf mark ls (ws.take ls.length)=Nf.rowOf mark ls ws
 | [],ws=>by rw[Nf.rowOf,Nf.rowOf]<;>(intro _ _ _ _ h;cases h)
 | x :: ls,[]=>rfl
 | x :: ls,v :: ws=>by
  show _ :: Nf.rowOf mark ls (ws.take ls.length)=_;rw[rowOf_more mark ls ws];rfl
theorem notMem_take{l:List Int}{j:Nat}{a:Int}(h:l.Nodup)(ha:l[j]?=some a):a∉l.take j:=by
 intro hm;obtain⟨i,hi,e⟩:=List.mem_take_iff_getElem.1 hm;obtain⟨h1,h2⟩:=List.getElem?_eq_some_iff.1 ha;have:=(List.getElem_inj h).1 (e.trans h2.symm);omega
theorem row_any(b n:Nat)(mark:Int)(s:ByteArray)(ls ws:List Int)(A:Option Addr)(c:Nat)(l:List ((Int×Int)×Int))(D:DataW Unit)(w:World)(h:PM w b n l D)(hs:Runes s 0 ls)(hr:Reads w w.heap.size 1 A ws.length (intVs ws))(hlw:ls.length≤ws.length)
  (hnd:ls.Nodup) (hfr:∀a∈ls,Nf.lookW (a,mark) l=none) (hwf:∀a∈ls,Wf2 (a,mark)) (hwv:∀v∈ws,(Lit.int .i64 v).wf=true) (hn:n+ls.length≤1000000) :
  Calls Tryz.prog 196 #[.map (some b),.int .i64 mark,.string s,.slice A ws.length c] w fun e w'=>∃D',e=.returned (.tuple #[])∧PM w' b (n+ls.length) (l++Nf.rowOf mark ls ws) D'∧But b w w':=by
 have H:=hide h;have HS:=hide hs;have HR:=hide hr;have HNd:=hide hnd;have HFr:=hide hfr;have HWf:=hide hwf;have HWv:=hide hwv;have HBl:=hide h.own.lt;clear h hs hr hnd hfr hwf hwv;obtain⟨N,hN⟩:∃N,ls.length=N:=⟨_,rfl⟩;obtain⟨M,hM⟩:∃M,ws.length=M:=⟨_,rfl⟩;rw[hN] at hlw hn ⊢;rw[hM] at hlw HR ⊢;have HN:=hide hN;have HM:=hide hM;clear hN hM
 go_enter Tryz.func196,Tryz.ntmps196
 go_wp2
 go_loopg [8] N (fun gk vk wr=>∃(j pos:Nat) (D':DataW Unit),gk=N-j∧j≤N∧vk=.int .i64 (j:Int)∧Runes s pos (ls.drop j)∧PM wr b (n+j) (l++Nf.rowOf mark (ls.take j) (ws.take j)) D'∧wr.heap[w.heap.size]?=some (.stringIter s pos)∧But b w wr)
 case atStart=>exact⟨0,0,D,rfl,by omega,rfl,HS.out,by rw[Nat.add_zero,List.take_zero,List.take_zero,show Nf.rowOf mark [] []=[] from rfl,List.append_nil];exact H.out.go (Below.heap_alloc w _ b HBl.out),World.iter_heap _ _ _,(But.refl b w).alloc _⟩
 case round=>
  obtain⟨j,pos,D',hgk,hj,rfl,hru,hp,hit,hb⟩:=hrel;have Hg:=hide hgk;have HP:=hide hp;have HI:=hide hit;have HB:=hide hb;clear hgk hp hb
  by_cases hlt:j<N
  ·obtain⟨a,ha⟩:∃a,ls[j]?=some a:=⟨_,List.getElem?_eq_getElem (by rw[HN.out];exact hlt)⟩;obtain⟨v,hv⟩:∃v,ws[j]?=some v:=⟨_,List.getElem?_eq_getElem (by rw[HM.out];omega)⟩;obtain⟨q1,q2⟩:=List.getElem?_eq_some_iff.1 ha;rw[List.drop_eq_getElem_cons q1,q2] at hru
   rcases hru with _|⟨_,_,_,hps,hde,hl⟩
   have hnx:∀ty,(Instr.next (.pointer (some ⟨w.heap.size,0,none⟩)) true ty).run Tryz.prog wr=_:=fun ty=>Lib.run_next_any_at wr w.heap.size s pos ty hit hps;rw[hde] at hnx;have Hl:=hide hl;have Hps:=hide hps;have Ha:=hide ha;have Hv:=hide hv;have hwa:=HWf.out a (List.mem_of_getElem? ha);have hcv:IntKind.i64.wrap a=a:=IntWalk.i64_in _ (wf_i64r hwa.1);obtain⟨gb,off,rfl,hgl,hcell⟩:=HR.out.2 (by omega);have y00:w.cell? ⟨gb,off+j,none⟩=some (.int .i64 v):=hcell j _ (by unfold intVs;rw[List.getElem?_map,Hv.out];rfl)
   have hgne:gb≠b:=fun e=>by
    obtain⟨es,cl,hmb,_⟩:=H.out.own;subst e;simp[World.cell?,hmb] at y00
   have hgi:gb≠w.heap.size:=Nat.ne_of_lt hgl;have y0:wr.cell? ⟨gb,off+j,none⟩=some (.int .i64 v):=(HB.out.cellN hgl hgne _).trans y00;have y1:∀q,(wr.iterAt w.heap.size s q).cell? ⟨gb,off+j,none⟩=some (.int .i64 v):=fun q=>((HB.out.iterAtN (Nat.le_refl _) s q).cellN hgl hgne _).trans y00;clear y00;have hjM:j<M:=by omega
   have Hhit:=hide hit;have hwv:=HWv.out v (List.mem_of_getElem? Hv.out);have HP2:∀q,PM (wr.iterAt w.heap.size s q) b (n+j) (l++Nf.rowOf mark (ls.take j) (ws.take j)) D':=fun q=>HP.out.go (Lib.iterAt_other _ _ _ _ _ (Nat.ne_of_lt HBl.out));have HP2:=hide HP2;have hnj:n+j<maxLen:=by unfold maxLen;omega
   clear hl hps ha hv q1 q2 hde hcell hit
   go_wp2_with (at_mapUpdate;refine wpList_mapUpdate_own _ rfl _ _ _ 214 rfl 219 3 law_pr Tryz.underlying214 _ b (n+j) D' rfl (HP2.out _).own hnj _ _ _ (by rfl) (by rfl) (keyOf_pr hwa) _ [] (plainElem_int Tryz.underlying3 hwv) ?_;intro w8 hown8 hgrow8)
   go_roundg (N-(j+1))
   case measure=>have:=Hg.out;omega
   case rel=>
    have hrx:=rowOf_next mark ls ws j a v Ha.out Hv.out;refine⟨j+1,_,D'.put (klP (a,mark)) (.lit (.int .i64 v)),rfl,by omega,by first|rfl|go_num,Hl.out,?_,?_,?_⟩
    ·rw[hrx,←List.append_assoc];refine PM.next (HP2.out 0) hwa ?_ hown8;rw[lookW_app _ _ _ (HFr.out a (List.mem_of_getElem? Ha.out))];exact lookW_row a mark _ _ (notMem_take HNd.out Ha.out)
    ·exact (hgrow8.block _ (by rw[Lib.iterAt_size];exact (Array.getElem?_eq_some_iff.1 Hhit.out).1) (fun e=>by have:=HBl.out;cases e;omega)).trans (Lib.iterAt_heap _ _ _ _ _ Hhit.out)
    exact (HB.out.iterAtN (Nat.le_refl _) _ _).grownN hgrow8
  have hjN:j=N:=by omega
  subst hjN;rw[List.drop_of_length_le (by rw[HN.out];exact Nat.le_refl _)] at hru
  rcases hru with ⟨_,hps⟩|_
  have hnx:∀ty,(Instr.next (.pointer (some ⟨w.heap.size,0,none⟩)) true ty).run Tryz.prog wr=_:=fun ty=>Lib.run_next_end_at wr w.heap.size s pos ty hit hps;have Hps:=hide hps;clear hit hps;go_wp2;go_end0;refine⟨D',rfl,?_,HB.out⟩;have hp:=HP.out;rw[List.take_of_length_le (by rw[HN.out];exact Nat.le_refl _),←HN.out,rowOf_more] at hp;rwa[HN.out] at hp
end
section
open Go.RowKit Go.WideShapes

structure QM(w:World)(b n:Nat)(l:List ((Int×Int)×Int))(D:DataW Unit):Prop where
 own:w.ownsMap Tryz.prog 3 pairElem b n D
 at_:∀r z,D.atKey (.int .i64 r) z=((Nf.lookM r l).map prD).getD z
 has:∀r,Maps.has D (.int .i64 r)=(Nf.lookM r l).isSome
theorem lookW_mem{p:Int×Int}{v:Int}:∀{l:List ((Int×Int)×Int)},Nf.lookW p l=some v→(p,v)∈l
 | [],h=>by cases h
 | x :: l,h=>by
  rw[Nf.lookW] at h
  split at h
  ·rename_i hx;cases h;subst hx;exact List.mem_cons_self ..
  exact List.mem_cons_of_mem _ (lookW_mem h)
theorem lookM_of{p:Int×Int}{v:Int}:∀{l:List ((Int×Int)×Int)},(l.map (·.2)).Nodup→(p,v)∈l→Nf.lookM v l=some p
 | x :: l,hn,h=>by
  rw[List.map_cons,List.nodup_cons] at hn;rw[Nf.lookM]
  rcases List.mem_cons.1 h with rfl|h
  ·rw[if_pos rfl]
  rw[if_neg (fun e=>hn.1 (by rw[e];exact List.mem_map_of_mem (f:=(·.2)) h))];exact lookM_of hn.2 h
theorem lookW_of{p:Int×Int}{v:Int}:∀{l:List ((Int×Int)×Int)},(l.map (·.1)).Nodup→(p,v)∈l→Nf.lookW p l=some v
 | x :: l,hn,h=>by
  rw[List.map_cons,List.nodup_cons] at hn;rw[Nf.lookW]
  rcases List.mem_cons.1 h with rfl|h
  ·rw[if_pos rfl]
  rw[if_neg (fun e=>hn.1 (by rw[e];exact List.mem_map_of_mem (f:=(·.1)) h))];exact lookW_of hn.2 h
def Done(Dout:DataW Unit)(l:List ((Int×Int)×Int))(left:Lit→Bool):Prop :=
 (∀r z,Dout.atKey (.int .i64 r) z=match Nf.lookM r l with|some x=>if left (klP x) then z else prD x|none=>z)∧
 ∀r,Maps.has Dout (.int .i64 r)=match Nf.lookM r l with|some x=>!left (klP x) | none=>false
theorem klP_self(x:Int×Int):(klP x).sameKey (klP x)=true:=by
 unfold klP;exact WideAt.sameKey_self (by simp[WideAt.IsKeyLit])
theorem Done.next{Dout:DataW Unit}{l:List ((Int×Int)×Int)}{left:Lit→Bool}{x:Int×Int}{v:Int}(h:Done Dout l left)(hi:Maps.IsMap Dout)(hk:(l.map (·.1)).Nodup)(hv:(l.map (·.2)).Nodup)(hwf:∀p∈l,Wf2 p.1)(hx:Wf2 x)(hm:(x,v)∈l):Done (Dout.put (.int .i64 v) (prD x)) l (fun z=>left z && !z.sameKey (klP x)):=by
 have hl:=lookM_of hv hm
 have hne:∀r y,r≠v→Nf.lookM r l=some y→klP y≠klP x:=fun r y e hr h=>by
  have hy:=Nf.lookM_mem hr;have:=klP_inj (hwf _ hy) hx h;subst this;have:=(lookW_of hk hy).symm.trans (lookW_of hk hm);exact e (Option.some.inj this)
 refine⟨fun r z=>?_,fun r=>?_⟩
 ·by_cases e:r=v
  ·subst e;rw[Maps.atKey_put_same hi (by simp[WideAt.IsKeyLit]),hl];simp[klP_self]
  rw[Maps.atKey_put_other (fun h=>e (by injection h)),h.1 r z]
  cases hr:Nf.lookM r l with
  | none=>rfl
  | some y=>simp[Maps.sameKey_ne (hne r y e hr)]
 by_cases e:r=v
 ·subst e;rw[Maps.has_put_same hi (by simp[WideAt.IsKeyLit]),hl];simp[klP_self]
 rw[Maps.has_put_other (fun h=>e (by injection h)),h.2 r]
 cases hr:Nf.lookM r l with
 | none=>rfl
 | some y=>simp[Maps.sameKey_ne (hne r y e hr)]
theorem Done.start{D:DataW Unit}{l:List ((Int×Int)×Int)}(hk:(l.map (·.1)).Nodup)(hwf:∀p∈l,Wf2 p.1)(hh:∀x,Wf2 x→Maps.has D (klP x)=(Nf.lookW x l).isSome):Done (.map []) l (Maps.has D):=by
 have key:∀r y,Nf.lookM r l=some y→Maps.has D (klP y)=true:=fun r y hr=>by
  have hy:=Nf.lookM_mem hr;rw[hh y (hwf _ hy),lookW_of hk hy];rfl
 refine⟨fun r z=>?_,fun r=>?_⟩
 ·cases hr:Nf.lookM r l with
  | none=>rfl
  | some y=>simp[key r y hr];rfl
 cases hr:Nf.lookM r l with
 | none=>rfl
 | some y=>simp[key r y hr];rfl
theorem Done.stop{w:World}{b n:Nat}{Dout:DataW Unit}{l:List ((Int×Int)×Int)}{left:Lit→Bool}(h:Done Dout l left)(h0:∀k,left k=false)(ho:w.ownsMap Tryz.prog 3 pairElem b n Dout):QM w b n l Dout:=by
 refine⟨ho,fun r z=>?_,fun r=>?_⟩
 ·rw[h.1 r z]
  cases hr:Nf.lookM r l with
  | none=>rfl
  | some y=>simp[h0]
 rw[h.2 r]
 cases hr:Nf.lookM r l with
 | none=>rfl
 | some y=>simp[h0]
theorem flip_any(b n:Nat)(l:List ((Int×Int)×Int))(D:DataW Unit)(w:World)(h:PM w b n l D)(hk:(l.map (·.1)).Nodup)(hv:(l.map (·.2)).Nodup)(hwf:∀p∈l,Wf2 p.1)(hn:n≤1000000) :
  Calls Tryz.prog 197 #[.map (some b)] w fun e w'=>∃n' D',e=.returned (.map (some w.heap.size))∧QM w' w.heap.size n' l D'∧n'≤1000000∧Below w.heap.size w w':=by
 have hmm:=@run_makeMap Tryz.prog;have hmax:Maps.size D≤1000000:=Nat.le_trans h.own.size_le hn;have hbl:=h.own.lt;have hown:=h.own;have e1:(w.alloc (.map #[] 0)).heap.size=w.heap.size+1:=by simp
 have HS:=hide (Done.start hk hwf h.has);have HH:=hide h;have Hk:=hide hk;have Hv:=hide hv;have Hwf:=hide hwf;clear h hk hv hwf
 go_enter Tryz.func197,Tryz.ntmps197
 go_wp2_with (first
  | (at_range;refine wpList_range_own _ rfl _ 214 rfl 219 3 law_pr Tryz.underlying214 _ b n _ rfl (hown.alloc _) ?_;intro w0 hrg0 hg0 hs0)
  | go_in)
 go_frame
 rw[e1] at hrg0 hs0 ⊢
 go_loopg [5] (Maps.size D) (fun gk _ wr=>∃(left:Lit→Bool) (cnt:Nat) (Dout:DataW Unit),gk=cnt∧wr.ranges Tryz.prog 219 (plainElem Tryz.prog 3) b (w.heap.size+1) n D left cnt∧cnt≤Maps.size D∧
   wr.ownsMap Tryz.prog 3 pairElem w.heap.size (Maps.size D-cnt) Dout∧Maps.IsMap Dout∧Done Dout l left∧(∀z,left z=true→Maps.has D z=true)∧Below w.heap.size w wr∧w.heap.size+2≤wr.heap.size)
 case atStart=>
  exact⟨_,_,.map [],rfl,hrg0,Nat.le_refl _,((World.ownsMap_made _ _ _ _).kept hg0 (by simp)).mono (Nat.zero_le _),Maps.isMap_empty,HS.out,fun _ h=>h,((Below.refl _ _).alloc (Nat.le_refl _) _).grown hg0 (by simp) (fun j hj=>by cases hj),by omega⟩
 case round=>
  obtain⟨left,cnt,Dout,hgk,hrg,hcs,hout,him,hA,hlh,hnx,hsz⟩:=hrel;have Hg:=hide hgk;have HA:=hide hA;have Hlh:=hide hlh;have Hnx:=hide hnx;clear hgk hA hlh hnx
  go_wp2_with (first
   | (at_next;go_loud (refine wpList_next_ranges _ rfl _ rfl 219 law_pr (plainElem Tryz.prog 3) (fun x:Int×Int=>.agg #[.int .i64 x.1,.int .i64 x.2]) (fun z=>.int .i64 z) (fun key kl h=>by obtain⟨x,_,e,_⟩:=keyOf_pr_inv h;exact⟨x,e⟩) (fun v y h=>by obtain⟨c,e,_⟩:=plainElem_int_inv Tryz.underlying3 h;exact⟨c,e⟩) b (w.heap.size+1) n _ _ _ rfl hrg ?_ ?_))
   | go_in)
  ·intro hc0 hl0;go_wp2;go_ret;exact⟨_,Dout,rfl,HA.out.stop hl0 hout,by omega,Hnx.out⟩
  intro x1 x2 c kl y1 y2 w1 cnt1 hkey hlx hy hat hrg1 hlt hg1 hs1 hen;obtain⟨x',hwx,ex,ekl⟩:=keyOf_pr_inv hkey;have ex':(x1,x2)=x':=prV_inj ex;subst ex';subst ekl;obtain⟨c',ec,ey,hwc⟩:=plainElem_int_inv Tryz.underlying3 hy;cases ec;cases ey
  have hmem:((x1,x2),c)∈l:=by
   have h1:=HH.out.at_ (x1,x2) hwx;rw[hat] at h1;have hh:=HH.out.has (x1,x2) hwx
   cases hl:Nf.lookW (x1,x2) l with
   | none=>
    rw[hl] at hh;have:=Hlh.out _ hlx;rw[hh] at this;cases this
   | some v=>
    rw[hl] at h1;injection h1 with h1
    injection h1 with _ h1
    rw[h1];exact lookW_mem hl
  have Hhat:=hide hmem;have Hhw:=hide hwx;have hout1:=hout.kept hg1 (by simp);have Hout:=hide hout1;have Hrg:=hide hrg1;have Hgr:=hide hg1;have e5:w1.heap.size=wr.heap.size:=hs1;have Him:=hide him;have hnj:Maps.size D-cnt<maxLen:=by unfold maxLen;omega
  clear ex hkey hlx hy hat hrg hrg1 hout hout1 hg1 hmem hwx him hown hrg0 hg0 hs0 hmm
  go_wp2_with (first
   | (at_mapUpdate;go_loud (refine wpList_mapUpdate_own _ rfl _ _ _ 215 rfl 3 219 law_int Tryz.underlying215 _ w.heap.size (Maps.size D-cnt) Dout rfl (Hout.out.alloc _) hnj _ _ _ (by rfl) (by rfl) (Maps.keyOf_int_mk Tryz.underlying3 hwc) _ [] (pairElem_mk (x1,x2)) ?_);intro w2 hout2 hg2;go_frame)
   | go_in)
  have e6:(w1.alloc (.cells #[.int .i64 x1,.int .i64 x2] 219)).heap.size=wr.heap.size+1:=by rw[World.size_alloc,e5]
  go_roundg cnt1
  case measure=>have:=Hg.out;omega
  case rel=>
   exact⟨_,cnt1,_,rfl,(Hrg.out.alloc _).kept hg2 (fun e=>by have:=Option.some.inj e;omega) (fun e=>by have:=Option.some.inj e;omega),by omega,hout2.mono (by omega),Him.out.put _ _,HA.out.next Him.out Hk.out Hv.out Hwf.out Hhw.out Hhat.out,
    fun z hz=>Hlh.out z (by simp only[Bool.and_eq_true] at hz;exact hz.1),
    ((Hnx.out.grown Hgr.out Hnx.out.size (fun j hj=>by cases hj;exact Nat.le_succ _)).alloc (by have:=Hnx.out.size;omega) _).grown hg2 (by have:=Hnx.out.size;omega) (fun j hj=>by cases hj;exact Nat.le_refl _),by have:=hg2.size;omega⟩
end
section
open Go.RowKit Go.WideShapes

theorem reads_newI(w:World)(ws:List Int):Reads (w.alloc (.cells (intVs ws).toArray 3)) (w.alloc (.cells (intVs ws).toArray 3)).heap.size 1 (some ⟨w.heap.size,0,none⟩) ws.length (intVs ws):=by
 refine⟨by simp[intVs],fun _=>⟨w.heap.size,0,rfl,by simp,fun j u hu=>?_⟩⟩;rw[Nat.zero_add,(Blk.new w 3 (intVs ws).toArray).cell j]
 simpa using hu
theorem row_new(b n:Nat)(mark:Int)(s:ByteArray)(ls ws:List Int)(l:List ((Int×Int)×Int))(hs:Runes s 0 ls)(hlw:ls.length≤ws.length)
  (hnd:ls.Nodup) (hfr:∀a∈ls,Nf.lookW (a,mark) l=none) (hwf:∀a∈ls,Wf2 (a,mark)) (hwv:∀v∈ws,(Lit.int .i64 v).wf=true) (hn:n+ls.length≤1000000) (D:DataW Unit) (W:World) (h:PM W b n l D) :
  Calls Tryz.prog 196 #[.map (some b),.int .i64 mark,.string s,.slice (some ⟨W.heap.size,0,none⟩) ws.length ws.length] (W.alloc (.cells (intVs ws).toArray 3)) fun e w'=>∃D',e=.returned (.tuple #[])∧PM w' b (n+ls.length) (l++Nf.rowOf mark ls ws) D'∧But b W w':=by
 refine (row_any b n mark s ls ws _ _ l D _ (h.go (Below.heap_alloc W _ b h.own.lt)) hs (reads_newI W ws) hlw hnd hfr hwf hwv hn).mono ?_;rintro e w' ⟨D',he,hp,hb⟩;exact⟨D',he,hp,((But.refl b W).alloc _).trans hb⟩
theorem runes_300:Runes ⟨#[65,69,73,79,85,97,101,105,111,117]⟩ 0 Nf.l300:=by
 unfold Nf.l300
 repeat (refine .cons _ _ _ (by decide) (by decide) ?_)
 exact .nil _ (by decide)
theorem row_300(b:Nat)(D:DataW Unit)(W:World)(h:PM W b 0 ([]) D) :
  Calls Tryz.prog 196 #[.map (some b),.int .i64 768,.string ⟨#[65,69,73,79,85,97,101,105,111,117]⟩,.slice (some ⟨W.heap.size,0,none⟩) 10 10] (W.alloc (.cells #[.int .i64 192,.int .i64 200,.int .i64 204,.int .i64 210,.int .i64 217,.int .i64 224,.int .i64 232,.int .i64 236,.int .i64 242,.int .i64 249] 3)) fun e w'=>∃D',e=.returned (.tuple #[])∧PM w' b 10 (Nf.rowOf 0x300 Nf.l300 Nf.w300) D'∧But b W w' :=
 row_new b 0 0x300 ⟨#[65,69,73,79,85,97,101,105,111,117]⟩ Nf.l300 Nf.w300 ([]) runes_300 (by decide) (by decide) (by decide +kernel) (by unfold Wf2;decide +kernel) (by decide +kernel) (by decide) D W h
theorem runes_301:Runes ⟨#[65,69,73,79,85,89,97,101,105,111,117,121,195,170,195,188]⟩ 0 Nf.l301:=by
 unfold Nf.l301
 repeat (refine .cons _ _ _ (by decide) (by decide) ?_)
 exact .nil _ (by decide)
theorem row_301(b:Nat)(D:DataW Unit)(W:World)(h:PM W b 10 (Nf.rowOf 0x300 Nf.l300 Nf.w300) D) :
  Calls Tryz.prog 196 #[.map (some b),.int .i64 769,.string ⟨#[65,69,73,79,85,89,97,101,105,111,117,121,195,170,195,188]⟩,.slice (some ⟨W.heap.size,0,none⟩) 14 14] (W.alloc (.cells #[.int .i64 193,.int .i64 201,.int .i64 205,.int .i64 211,.int .i64 218,.int .i64 221,.int .i64 225,.int .i64 233,.int .i64 237,.int .i64 243,.int .i64 250,.int .i64 253,.int .i64 7871,.int .i64 472] 3)) fun e w'=>∃D',e=.returned (.tuple #[])∧PM w' b 24 (Nf.rowOf 0x300 Nf.l300 Nf.w300++Nf.rowOf 0x301 Nf.l301 Nf.w301) D'∧But b W w' :=
 row_new b 10 0x301 ⟨#[65,69,73,79,85,89,97,101,105,111,117,121,195,170,195,188]⟩ Nf.l301 Nf.w301 (Nf.rowOf 0x300 Nf.l300 Nf.w300) runes_301 (by decide) (by decide) (by decide +kernel) (by unfold Wf2;decide +kernel) (by decide +kernel) (by decide) D W h
theorem runes_302:Runes ⟨#[65,69,73,79,85,97,101,105,111,117,225,186,185]⟩ 0 Nf.l302:=by
 unfold Nf.l302
 repeat (refine .cons _ _ _ (by decide) (by decide) ?_)
 exact .nil _ (by decide)
theorem row_302(b:Nat)(D:DataW Unit)(W:World)(h:PM W b 24 (Nf.rowOf 0x300 Nf.l300 Nf.w300++Nf.rowOf 0x301 Nf.l301 Nf.w301) D) :
  Calls Tryz.prog 196 #[.map (some b),.int .i64 770,.string ⟨#[65,69,73,79,85,97,101,105,111,117,225,186,185]⟩,.slice (some ⟨W.heap.size,0,none⟩) 11 11] (W.alloc (.cells #[.int .i64 194,.int .i64 202,.int .i64 206,.int .i64 212,.int .i64 219,.int .i64 226,.int .i64 234,.int .i64 238,.int .i64 244,.int .i64 251,.int .i64 7879] 3)) fun e w'=>∃D',e=.returned (.tuple #[])∧PM w' b 35 (Nf.rowOf 0x300 Nf.l300 Nf.w300++Nf.rowOf 0x301 Nf.l301 Nf.w301++Nf.rowOf 0x302 Nf.l302 Nf.w302) D'∧But b W w' :=
 row_new b 24 0x302 ⟨#[65,69,73,79,85,97,101,105,111,117,225,186,185]⟩ Nf.l302 Nf.w302 (Nf.rowOf 0x300 Nf.l300 Nf.w300++Nf.rowOf 0x301 Nf.l301 Nf.w301) runes_302 (by decide) (by decide) (by decide +kernel) (by unfold Wf2;decide +kernel) (by decide +kernel) (by decide) D W h
theorem runes_303:Runes ⟨#[65,78,79,97,110,111]⟩ 0 Nf.l303:=by
 unfold Nf.l303
 repeat (refine .cons _ _ _ (by decide) (by decide) ?_)
 exact .nil _ (by decide)
theorem row_303(b:Nat)(D:DataW Unit)(W:World)(h:PM W b 35 (Nf.rowOf 0x300 Nf.l300 Nf.w300++Nf.rowOf 0x301 Nf.l301 Nf.w301++Nf.rowOf 0x302 Nf.l302 Nf.w302) D) :
  Calls Tryz.prog 196 #[.map (some b),.int .i64 771,.string ⟨#[65,78,79,97,110,111]⟩,.slice (some ⟨W.heap.size,0,none⟩) 6 6] (W.alloc (.cells #[.int .i64 195,.int .i64 209,.int .i64 213,.int .i64 227,.int .i64 241,.int .i64 245] 3)) fun e w'=>∃D',e=.returned (.tuple #[])∧PM w' b 41 (Nf.rowOf 0x300 Nf.l300 Nf.w300++Nf.rowOf 0x301 Nf.l301 Nf.w301++Nf.rowOf 0x302 Nf.l302 Nf.w302++Nf.rowOf 0x303 Nf.l303 Nf.w303) D'∧But b W w' :=
 row_new b 35 0x303 ⟨#[65,78,79,97,110,111]⟩ Nf.l303 Nf.w303 (Nf.rowOf 0x300 Nf.l300 Nf.w300++Nf.rowOf 0x301 Nf.l301 Nf.w301++Nf.rowOf 0x302 Nf.l302 Nf.w302) runes_303 (by decide) (by decide) (by decide +kernel) (by unfold Wf2;decide +kernel) (by decide +kernel) (by decide) D W h
theorem runes_304:Runes ⟨#[195,188]⟩ 0 Nf.l304:=by
 unfold Nf.l304
 repeat (refine .cons _ _ _ (by decide) (by decide) ?_)
 exact .nil _ (by decide)
theorem row_304(b:Nat)(D:DataW Unit)(W:World)(h:PM W b 41 (Nf.rowOf 0x300 Nf.l300 Nf.w300++Nf.rowOf 0x301 Nf.l301 Nf.w301++Nf.rowOf 0x302 Nf.l302 Nf.w302++Nf.rowOf 0x303 Nf.l303 Nf.w303) D) :
  Calls Tryz.prog 196 #[.map (some b),.int .i64 772,.string ⟨#[195,188]⟩,.slice (some ⟨W.heap.size,0,none⟩) 1 1] (W.alloc (.cells #[.int .i64 470] 3)) fun e w'=>∃D',e=.returned (.tuple #[])∧PM w' b 42 (Nf.rowOf 0x300 Nf.l300 Nf.w300++Nf.rowOf 0x301 Nf.l301 Nf.w301++Nf.rowOf 0x302 Nf.l302 Nf.w302++Nf.rowOf 0x303 Nf.l303 Nf.w303++Nf.rowOf 0x304 Nf.l304 Nf.w304) D'∧But b W w' :=
 row_new b 41 0x304 ⟨#[195,188]⟩ Nf.l304 Nf.w304 (Nf.rowOf 0x300 Nf.l300 Nf.w300++Nf.rowOf 0x301 Nf.l301 Nf.w301++Nf.rowOf 0x302 Nf.l302 Nf.w302++Nf.rowOf 0x303 Nf.l303 Nf.w303) runes_304 (by decide) (by decide) (by decide +kernel) (by unfold Wf2;decide +kernel) (by decide +kernel) (by decide) D W h
theorem runes_306:Runes ⟨#[208,152,208,184]⟩ 0 Nf.l306:=by
 unfold Nf.l306
 repeat (refine .cons _ _ _ (by decide) (by decide) ?_)
 exact .nil _ (by decide)
theorem row_306(b:Nat)(D:DataW Unit)(W:World)(h:PM W b 42 (Nf.rowOf 0x300 Nf.l300 Nf.w300++Nf.rowOf 0x301 Nf.l301 Nf.w301++Nf.rowOf 0x302 Nf.l302 Nf.w302++Nf.rowOf 0x303 Nf.l303 Nf.w303++Nf.rowOf 0x304 Nf.l304 Nf.w304) D) :
  Calls Tryz.prog 196 #[.map (some b),.int .i64 774,.string ⟨#[208,152,208,184]⟩,.slice (some ⟨W.heap.size,0,none⟩) 2 2] (W.alloc (.cells #[.int .i64 1049,.int .i64 1081] 3)) fun e w'=>∃D',e=.returned (.tuple #[])∧PM w' b 44 (Nf.rowOf 0x300 Nf.l300 Nf.w300++Nf.rowOf 0x301 Nf.l301 Nf.w301++Nf.rowOf 0x302 Nf.l302 Nf.w302++Nf.rowOf 0x303 Nf.l303 Nf.w303++Nf.rowOf 0x304 Nf.l304 Nf.w304++Nf.rowOf 0x306 Nf.l306 Nf.w306) D'∧But b W w' :=
 row_new b 42 0x306 ⟨#[208,152,208,184]⟩ Nf.l306 Nf.w306 (Nf.rowOf 0x300 Nf.l300 Nf.w300++Nf.rowOf 0x301 Nf.l301 Nf.w301++Nf.rowOf 0x302 Nf.l302 Nf.w302++Nf.rowOf 0x303 Nf.l303 Nf.w303++Nf.rowOf 0x304 Nf.l304 Nf.w304) runes_306 (by decide) (by decide) (by decide +kernel) (by unfold Wf2;decide +kernel) (by decide +kernel) (by decide) D W h
theorem runes_308:Runes ⟨#[65,69,73,79,85,97,101,105,111,117,121,208,149,208,181]⟩ 0 Nf.l308:=by
 unfold Nf.l308
 repeat (refine .cons _ _ _ (by decide) (by decide) ?_)
 exact .nil _ (by decide)
theorem row_308(b:Nat)(D:DataW Unit)(W:World)(h:PM W b 44 (Nf.rowOf 0x300 Nf.l300 Nf.w300++Nf.rowOf 0x301 Nf.l301 Nf.w301++Nf.rowOf 0x302 Nf.l302 Nf.w302++Nf.rowOf 0x303 Nf.l303 Nf.w303++Nf.rowOf 0x304 Nf.l304 Nf.w304++Nf.rowOf 0x306 Nf.l306 Nf.w306) D) :
  Calls Tryz.prog 196 #[.map (some b),.int .i64 776,.string ⟨#[65,69,73,79,85,97,101,105,111,117,121,208,149,208,181]⟩,.slice (some ⟨W.heap.size,0,none⟩) 13 13] (W.alloc (.cells #[.int .i64 196,.int .i64 203,.int .i64 207,.int .i64 214,.int .i64 220,.int .i64 228,.int .i64 235,.int .i64 239,.int .i64 246,.int .i64 252,.int .i64 255,.int .i64 1025,.int .i64 1105] 3)) fun e w'=>∃D',e=.returned (.tuple #[])∧PM w' b 57 (Nf.rowOf 0x300 Nf.l300 Nf.w300++Nf.rowOf 0x301 Nf.l301 Nf.w301++Nf.rowOf 0x302 Nf.l302 Nf.w302++Nf.rowOf 0x303 Nf.l303 Nf.w303++Nf.rowOf 0x304 Nf.l304 Nf.w304++Nf.rowOf 0x306 Nf.l306 Nf.w306++Nf.rowOf 0x308 Nf.l308 Nf.w308) D'∧But b W w' :=
 row_new b 44 0x308 ⟨#[65,69,73,79,85,97,101,105,111,117,121,208,149,208,181]⟩ Nf.l308 Nf.w308 (Nf.rowOf 0x300 Nf.l300 Nf.w300++Nf.rowOf 0x301 Nf.l301 Nf.w301++Nf.rowOf 0x302 Nf.l302 Nf.w302++Nf.rowOf 0x303 Nf.l303 Nf.w303++Nf.rowOf 0x304 Nf.l304 Nf.w304++Nf.rowOf 0x306 Nf.l306 Nf.w306) runes_308 (by decide) (by decide) (by decide +kernel) (by unfold Wf2;decide +kernel) (by decide +kernel) (by decide) D W h
theorem runes_30A:Runes ⟨#[65,97]⟩ 0 Nf.l30A:=by
 unfold Nf.l30A
 repeat (refine .cons _ _ _ (by decide) (by decide) ?_)
 exact .nil _ (by decide)
theorem row_30A(b:Nat)(D:DataW Unit)(W:World)(h:PM W b 57 (Nf.rowOf 0x300 Nf.l300 Nf.w300++Nf.rowOf 0x301 Nf.l301 Nf.w301++Nf.rowOf 0x302 Nf.l302 Nf.w302++Nf.rowOf 0x303 Nf.l303 Nf.w303++Nf.rowOf 0x304 Nf.l304 Nf.w304++Nf.rowOf 0x306 Nf.l306 Nf.w306++Nf.rowOf 0x308 Nf.l308 Nf.w308) D) :
  Calls Tryz.prog 196 #[.map (some b),.int .i64 778,.string ⟨#[65,97]⟩,.slice (some ⟨W.heap.size,0,none⟩) 2 2] (W.alloc (.cells #[.int .i64 197,.int .i64 229] 3)) fun e w'=>∃D',e=.returned (.tuple #[])∧PM w' b 59 (Nf.rowOf 0x300 Nf.l300 Nf.w300++Nf.rowOf 0x301 Nf.l301 Nf.w301++Nf.rowOf 0x302 Nf.l302 Nf.w302++Nf.rowOf 0x303 Nf.l303 Nf.w303++Nf.rowOf 0x304 Nf.l304 Nf.w304++Nf.rowOf 0x306 Nf.l306 Nf.w306++Nf.rowOf 0x308 Nf.l308 Nf.w308++Nf.rowOf 0x30A Nf.l30A Nf.w30A) D'∧But b W w' :=
 row_new b 57 0x30A ⟨#[65,97]⟩ Nf.l30A Nf.w30A (Nf.rowOf 0x300 Nf.l300 Nf.w300++Nf.rowOf 0x301 Nf.l301 Nf.w301++Nf.rowOf 0x302 Nf.l302 Nf.w302++Nf.rowOf 0x303 Nf.l303 Nf.w303++Nf.rowOf 0x304 Nf.l304 Nf.w304++Nf.rowOf 0x306 Nf.l306 Nf.w306++Nf.rowOf 0x308 Nf.l308 Nf.w308) runes_30A (by decide) (by decide) (by decide +kernel) (by unfold Wf2;decide +kernel) (by decide +kernel) (by decide) D W h
theorem runes_30C:Runes ⟨#[67,83,90,99,115,122]⟩ 0 Nf.l30C:=by
 unfold Nf.l30C
 repeat (refine .cons _ _ _ (by decide) (by decide) ?_)
 exact .nil _ (by decide)
theorem row_30C(b:Nat)(D:DataW Unit)(W:World)(h:PM W b 59 (Nf.rowOf 0x300 Nf.l300 Nf.w300++Nf.rowOf 0x301 Nf.l301 Nf.w301++Nf.rowOf 0x302 Nf.l302 Nf.w302++Nf.rowOf 0x303 Nf.l303 Nf.w303++Nf.rowOf 0x304 Nf.l304 Nf.w304++Nf.rowOf 0x306 Nf.l306 Nf.w306++Nf.rowOf 0x308 Nf.l308 Nf.w308++Nf.rowOf 0x30A Nf.l30A Nf.w30A) D) :
  Calls Tryz.prog 196 #[.map (some b),.int .i64 780,.string ⟨#[67,83,90,99,115,122]⟩,.slice (some ⟨W.heap.size,0,none⟩) 6 6] (W.alloc (.cells #[.int .i64 268,.int .i64 352,.int .i64 381,.int .i64 269,.int .i64 353,.int .i64 382] 3)) fun e w'=>∃D',e=.returned (.tuple #[])∧PM w' b 65 (Nf.rowOf 0x300 Nf.l300 Nf.w300++Nf.rowOf 0x301 Nf.l301 Nf.w301++Nf.rowOf 0x302 Nf.l302 Nf.w302++Nf.rowOf 0x303 Nf.l303 Nf.w303++Nf.rowOf 0x304 Nf.l304 Nf.w304++Nf.rowOf 0x306 Nf.l306 Nf.w306++Nf.rowOf 0x308 Nf.l308 Nf.w308++Nf.rowOf 0x30A Nf.l30A Nf.w30A++Nf.rowOf 0x30C Nf.l30C Nf.w30C) D'∧But b W w' :=
 row_new b 59 0x30C ⟨#[67,83,90,99,115,122]⟩ Nf.l30C Nf.w30C (Nf.rowOf 0x300 Nf.l300 Nf.w300++Nf.rowOf 0x301 Nf.l301 Nf.w301++Nf.rowOf 0x302 Nf.l302 Nf.w302++Nf.rowOf 0x303 Nf.l303 Nf.w303++Nf.rowOf 0x304 Nf.l304 Nf.w304++Nf.rowOf 0x306 Nf.l306 Nf.w306++Nf.rowOf 0x308 Nf.l308 Nf.w308++Nf.rowOf 0x30A Nf.l30A Nf.w30A) runes_30C (by decide) (by decide) (by decide +kernel) (by unfold Wf2;decide +kernel) (by decide +kernel) (by decide) D W h
theorem runes_323:Runes ⟨#[101]⟩ 0 Nf.l323:=by
 unfold Nf.l323
 repeat (refine .cons _ _ _ (by decide) (by decide) ?_)
 exact .nil _ (by decide)
theorem row_323(b:Nat)(D:DataW Unit)(W:World)(h:PM W b 65 (Nf.rowOf 0x300 Nf.l300 Nf.w300++Nf.rowOf 0x301 Nf.l301 Nf.w301++Nf.rowOf 0x302 Nf.l302 Nf.w302++Nf.rowOf 0x303 Nf.l303 Nf.w303++Nf.rowOf 0x304 Nf.l304 Nf.w304++Nf.rowOf 0x306 Nf.l306 Nf.w306++Nf.rowOf 0x308 Nf.l308 Nf.w308++Nf.rowOf 0x30A Nf.l30A Nf.w30A++Nf.rowOf 0x30C Nf.l30C Nf.w30C) D) :
  Calls Tryz.prog 196 #[.map (some b),.int .i64 803,.string ⟨#[101]⟩,.slice (some ⟨W.heap.size,0,none⟩) 1 1] (W.alloc (.cells #[.int .i64 7865] 3)) fun e w'=>∃D',e=.returned (.tuple #[])∧PM w' b 66 (Nf.rowOf 0x300 Nf.l300 Nf.w300++Nf.rowOf 0x301 Nf.l301 Nf.w301++Nf.rowOf 0x302 Nf.l302 Nf.w302++Nf.rowOf 0x303 Nf.l303 Nf.w303++Nf.rowOf 0x304 Nf.l304 Nf.w304++Nf.rowOf 0x306 Nf.l306 Nf.w306++Nf.rowOf 0x308 Nf.l308 Nf.w308++Nf.rowOf 0x30A Nf.l30A Nf.w30A++Nf.rowOf 0x30C Nf.l30C Nf.w30C++Nf.rowOf 0x323 Nf.l323 Nf.w323) D'∧But b W w' :=
 row_new b 65 0x323 ⟨#[101]⟩ Nf.l323 Nf.w323 (Nf.rowOf 0x300 Nf.l300 Nf.w300++Nf.rowOf 0x301 Nf.l301 Nf.w301++Nf.rowOf 0x302 Nf.l302 Nf.w302++Nf.rowOf 0x303 Nf.l303 Nf.w303++Nf.rowOf 0x304 Nf.l304 Nf.w304++Nf.rowOf 0x306 Nf.l306 Nf.w306++Nf.rowOf 0x308 Nf.l308 Nf.w308++Nf.rowOf 0x30A Nf.l30A Nf.w30A++Nf.rowOf 0x30C Nf.l30C Nf.w30C) runes_323 (by decide) (by decide) (by decide +kernel) (by unfold Wf2;decide +kernel) (by decide +kernel) (by decide) D W h
theorem runes_327:Runes ⟨#[67,99]⟩ 0 Nf.l327:=by
 unfold Nf.l327
 repeat (refine .cons _ _ _ (by decide) (by decide) ?_)
 exact .nil _ (by decide)
theorem row_327(b:Nat)(D:DataW Unit)(W:World)(h:PM W b 66 (Nf.rowOf 0x300 Nf.l300 Nf.w300++Nf.rowOf 0x301 Nf.l301 Nf.w301++Nf.rowOf 0x302 Nf.l302 Nf.w302++Nf.rowOf 0x303 Nf.l303 Nf.w303++Nf.rowOf 0x304 Nf.l304 Nf.w304++Nf.rowOf 0x306 Nf.l306 Nf.w306++Nf.rowOf 0x308 Nf.l308 Nf.w308++Nf.rowOf 0x30A Nf.l30A Nf.w30A++Nf.rowOf 0x30C Nf.l30C Nf.w30C++Nf.rowOf 0x323 Nf.l323 Nf.w323) D) :
  Calls Tryz.prog 196 #[.map (some b),.int .i64 807,.string ⟨#[67,99]⟩,.slice (some ⟨W.heap.size,0,none⟩) 2 2] (W.alloc (.cells #[.int .i64 199,.int .i64 231] 3)) fun e w'=>∃D',e=.returned (.tuple #[])∧PM w' b 68 (Nf.rowOf 0x300 Nf.l300 Nf.w300++Nf.rowOf 0x301 Nf.l301 Nf.w301++Nf.rowOf 0x302 Nf.l302 Nf.w302++Nf.rowOf 0x303 Nf.l303 Nf.w303++Nf.rowOf 0x304 Nf.l304 Nf.w304++Nf.rowOf 0x306 Nf.l306 Nf.w306++Nf.rowOf 0x308 Nf.l308 Nf.w308++Nf.rowOf 0x30A Nf.l30A Nf.w30A++Nf.rowOf 0x30C Nf.l30C Nf.w30C++Nf.rowOf 0x323 Nf.l323 Nf.w323++Nf.rowOf 0x327 Nf.l327 Nf.w327) D'∧But b W w' :=
 row_new b 66 0x327 ⟨#[67,99]⟩ Nf.l327 Nf.w327 (Nf.rowOf 0x300 Nf.l300 Nf.w300++Nf.rowOf 0x301 Nf.l301 Nf.w301++Nf.rowOf 0x302 Nf.l302 Nf.w302++Nf.rowOf 0x303 Nf.l303 Nf.w303++Nf.rowOf 0x304 Nf.l304 Nf.w304++Nf.rowOf 0x306 Nf.l306 Nf.w306++Nf.rowOf 0x308 Nf.l308 Nf.w308++Nf.rowOf 0x30A Nf.l30A Nf.w30A++Nf.rowOf 0x30C Nf.l30C Nf.w30C++Nf.rowOf 0x323 Nf.l323 Nf.w323) runes_327 (by decide) (by decide) (by decide +kernel) (by unfold Wf2;decide +kernel) (by decide +kernel) (by decide) D W h

theorem table_ret{a:Act}{W:World}{N:Nat}{v0 v1:Value}{Q:Ending→World→Prop}(ha:a.tmps.getD 0 undef=.pointer (some ⟨N,0,none⟩))(hd:a.defers=[])(hK:Blk W N 217 #[v0,v1])(hQ:Q (.returned (.agg #[v0,v1])) W):bodyPost Tryz.prog Tryz.f181 Q Exit.ret a W :=
 bodyPost_ret (results_cell_row (fn:=Tryz.f181) rfl a.tmps W N 217 #[v0,v1] (0,0) _ ha hK Tryz.underlying217 rfl (by kernel_rfl)) hd hQ
theorem table_wf:∀p∈Nf.table,Wf2 p.1:=by unfold Wf2;decide +kernel
theorem table_any(w:World) :
  Calls Tryz.prog 181 #[] w fun e w'=>∃m q n n' D D',e=.returned (.agg #[.map (some m),.map (some q)])∧PM w' m n Nf.table D∧QM w' q n' Nf.table D'∧Below w.heap.size w w':=by
 have hmm:=@run_makeMap Tryz.prog;obtain⟨W0,hW0⟩:∃W0,(w.alloc (.cells #[.map none,.map none] 217)).alloc (.map #[] 0)=W0:=⟨_,rfl⟩
 have P0:=hide (show PM W0 (w.heap.size+1) 0 [] (.map []) by
  have:=PM.nil (w.alloc (.cells #[.map none,.map none] 217));rw[World.size_alloc,hW0] at this;exact this)
 have B0:=hide (But.refl (w.heap.size+1) W0);have S0:=hide (show W0.heap.size=w.heap.size+2 by rw[←hW0];simp)
 go_enter Tryz.func181,Tryz.ntmps181
 go_wp2_with fail
 refine (row_300 (w.heap.size+1) _ W0 P0.out).mono ?_;rintro e w1 ⟨D1,rfl,hp,hb⟩;have P1:=hide hp;have B1:=hide (B0.out.trans hb);clear hp hb
 go_wp2_with fail
 refine (row_301 (w.heap.size+1) _ w1 P1.out).mono ?_;rintro e w2 ⟨D2,rfl,hp,hb⟩;have P2:=hide hp;have B2:=hide (B1.out.trans hb);clear hp hb
 go_wp2_with fail
 refine (row_302 (w.heap.size+1) _ w2 P2.out).mono ?_;rintro e w3 ⟨D3,rfl,hp,hb⟩;have P3:=hide hp;have B3:=hide (B2.out.trans hb);clear hp hb
 go_wp2_with fail
 refine (row_303 (w.heap.size+1) _ w3 P3.out).mono ?_;rintro e w4 ⟨D4,rfl,hp,hb⟩;have P4:=hide hp;have B4:=hide (B3.out.trans hb);clear hp hb
 go_wp2_with fail
 refine (row_304 (w.heap.size+1) _ w4 P4.out).mono ?_;rintro e w5 ⟨D5,rfl,hp,hb⟩;have P5:=hide hp;have B5:=hide (B4.out.trans hb);clear hp hb
 go_wp2_with fail
 refine (row_306 (w.heap.size+1) _ w5 P5.out).mono ?_;rintro e w6 ⟨D6,rfl,hp,hb⟩;have P6:=hide hp;have B6:=hide (B5.out.trans hb);clear hp hb
 go_wp2_with fail
 refine (row_308 (w.heap.size+1) _ w6 P6.out).mono ?_;rintro e w7 ⟨D7,rfl,hp,hb⟩;have P7:=hide hp;have B7:=hide (B6.out.trans hb);clear hp hb
 go_wp2_with fail
 refine (row_30A (w.heap.size+1) _ w7 P7.out).mono ?_;rintro e w8 ⟨D8,rfl,hp,hb⟩;have P8:=hide hp;have B8:=hide (B7.out.trans hb);clear hp hb
 go_wp2_with fail
 refine (row_30C (w.heap.size+1) _ w8 P8.out).mono ?_;rintro e w9 ⟨D9,rfl,hp,hb⟩;have P9:=hide hp;have B9:=hide (B8.out.trans hb);clear hp hb
 go_wp2_with fail
 refine (row_323 (w.heap.size+1) _ w9 P9.out).mono ?_;rintro e w10 ⟨D10,rfl,hp,hb⟩;have P10:=hide hp;have B10:=hide (B9.out.trans hb);clear hp hb
 go_wp2_with fail
 refine (row_327 (w.heap.size+1) _ w10 P10.out).mono ?_;rintro e w11 ⟨D11,rfl,hp,hb⟩;have P11:=hide hp;have B11:=hide (B10.out.trans hb);clear hp hb
 go_wp2_with fail
 refine (flip_any (w.heap.size+1) _ Nf.table _ w11 P11.out Nf.table_keys Nf.table_vals table_wf (by decide)).mono ?_;rintro e w12 ⟨n',D',rfl,hq,hn',hb⟩;have HQ:=hide hq;have HP:=hide (P11.out.go (hb.block _ P11.out.own.lt));have hbt:=B11.out.go hb;have hbk:Blk w12 w.heap.size 217 #[.map none,.map none]:=hbt.blk (by rw[←hW0];exact (Blk.new w _ _).alloc _) (by omega);have c0:=hbk.cell 0;have c1:=hbk.cell 1;have f0:=hbk.frozen 0;have f1:=hbk.frozen 1
 have HB:=hide (show Below w.heap.size w w12 from by
  have h0:Below w.heap.size w W0:=by rw[←hW0];exact (below_alloc w _).trans ((below_alloc _ _).mono (by simp))
  exact h0.trans (hbt.below (by omega) h0.size))
 have HK:=hide hbk;have hqb:=hq.own.lt;clear hq hb hbt hbk;go_wp2;have h2:=((HK.out.set_ 0 (.map (some (w.heap.size+1)))).set_ 1 (.map (some w11.heap.size)));refine table_ret rfl rfl h2 ?_;have hs11:w.heap.size+2≤w11.heap.size:=by rw[←S0.out];exact B11.out.size
 exact⟨w.heap.size+1,w11.heap.size,_,n',_,D',rfl,HP.out.go (by rw[Below.heap_setCell _ _ _ _ (by simp),Below.heap_setCell _ _ _ _ (by simp)]),⟨map_sameN HQ.out.own (by rw[Below.heap_setCell _ _ _ _ (by show w11.heap.size≠w.heap.size;omega),Below.heap_setCell _ _ _ _ (by show w11.heap.size≠w.heap.size;omega)]),HQ.out.at_,HQ.out.has⟩,(HB.out.setCell (Nat.le_refl _) _).setCell (Nat.le_refl _) _⟩
end
end Go.Proofs.YtifiiojchlaghaaGreatDoor
