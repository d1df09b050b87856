/- NFC: keys that are pairs of numbers; the elements that are pairs. And more. -/
import Derived.Test.YtnbmfljhbpfilaaGreatDoorOw22
import Derived.Maps.Own
import Derived.Maps.OwnOps
import Derived.Maps.OwnSet
import Derived.Maps.RangeWalk
import Derived.Maps.Ext
import Derived.Maps.Views
import Derived.DeepKeys4
import Derived.Deep.LoopGhost
import Derived.Laws.RangeAny
import Derived.Lib.OthersKept
import Derived.WalkSmall
import Derived.DataShut
set_option linter.unusedSimpArgs false
set_option maxRecDepth 100000
set_option maxHeartbeats 8000000
set_option linter.unusedVariables false
namespace Go.Proofs.YtnbmfljhbpfilaaGreatDoor
section
open Go.RowKit Go.WideShapes

theorem VD:laidOutB Tryz.prog=true:=by kernel_rfl
theorem MR:(235:TypeId)<Tryz.prog.types.size:=of_decide_eq_true (by kernel_rfl)
theorem abK:Tryz.prog.keyTypeAt 2 235=true:=by kernel_rfl
theorem VA:WideMaps.KeyLaw Tryz.prog 235:=deep_law_laid VD (m:=2) (by decide) MR abK (by rw[Tryz.underlying235])
theorem ow:Maps.Keyed Tryz.prog 235:=Maps.Keyed.of_law VA
theorem yg:Maps.Keyed Tryz.prog 3:=Maps.int_keyed Tryz.underlying3
theorem DA:Tryz.prog.cellsOf 235=2:=by kernel_rfl
theorem Ju:Tryz.prog.cellsOf 3=1:=by kernel_rfl
theorem agJ:Tryz.prog.keyType 235=true:=by kernel_rfl
theorem NM:∃m,Tryz.prog.types.size=m+1:=by
 have h:=MR;generalize Tryz.prog.types.size=s at h
 cases s with
 | zero=>cases h
 | succ m=>exact⟨m,rfl⟩
def oD(x:Int×Int):Value:=.agg #[.int .i64 x.1,.int .i64 x.2]
def dm(x:Int×Int):Lit:=.string (keyBytes [.int .i64 x.1,.int .i64 x.2])
def dh(x:Int×Int):Prop:=(Lit.int .i64 x.1).wf=true∧(Lit.int .i64 x.2).wf=true
theorem ot{x:Int×Int}(h:dh x):keyOf Tryz.prog 235 (oD x)=some (dm x):=by
 obtain⟨m,hm⟩:=NM;obtain⟨h1,h2⟩:=h;unfold keyOf oD;simp only[Tryz.underlying235];rw[if_pos (by simp[agJ,Value.formed,Tryz.underlying235,DA]),hm];unfold Program.keyLits;simp only[Tryz.underlying235,Value.cells];simp[DA,Ju,Program.keyLits,Tryz.underlying3,h1,h2,List.range_succ,List.mapM_cons,dm]
theorem Xa{x y:Int×Int}(h:oD x=oD y):x=y:=by
 unfold oD at h;simp only[Value.agg.injEq,Array.mk.injEq,List.cons.injEq,Value.int.injEq,true_and,and_true] at h;exact Prod.ext h.1 h.2
theorem Bz{x y:Int×Int}(hx:dh x)(hy:dh y)(h:dm x=dm y):x=y :=
 Xa (VA.inj (ot hx) (by rw[h];exact ot hy))
def WH:List Value→Option (DataW Unit×List MemPlace)
 | [.int .i64 a,.int .i64 b]=>some (.agg [.lit (.int .i64 a),.lit (.int .i64 b)],[])
 | _=>none
def ry(v:Value):Option (DataW Unit×List MemPlace):=match v with
 | .agg cs=>WH cs.toList
 | _=>none
def nk(x:Int×Int):DataW Unit:=.agg [.lit (.int .i64 x.1),.lit (.int .i64 x.2)]
theorem ME(x:Int×Int):ry (oD x)=some (nk x,[]):=rfl
theorem ais{v:Value}{y:DataW Unit×List MemPlace}(h:ry v=some y):∃x,v=oD x∧y=(nk x,[]):=by
 unfold ry at h
 split at h
 ·rename_i cs
  unfold WH at h
  split at h
  ·rename_i a b he
   cases h;refine⟨(a,b),?_,rfl⟩;unfold oD;congr 1;exact Array.ext' he
  cases h
 cases h
theorem amn{c:List Value}(h:c.length=2):∃c0 c1,c=[c0,c1]:=by
 match c,h with
 | [c0,c1],_=>exact⟨c0,c1,rfl⟩
theorem Vx{m:Nat}{c:Value}{x:List Lit}(h:Tryz.prog.keyLits (m+1) 3 [c]=some x):∃z,c=.int .i64 z∧(Lit.int .i64 z).wf=true∧x=[.int .i64 z]:=by
 cases c<;>simp[Program.keyLits,Tryz.underlying3] at h
 obtain⟨⟨rfl,hw⟩,rfl⟩:=h;exact⟨_,rfl,hw,rfl⟩
theorem Vy{key:Value}{kl:Lit}(h:keyOf Tryz.prog 235 key=some kl):∃x,dh x∧key=oD x∧kl=dm x:=by
 obtain⟨m,hm⟩:=NM;unfold keyOf at h;simp only[Tryz.underlying235] at h
 split at h
 ·rename_i hf
  rw[hm] at h;simp only[Bool.and_eq_true] at hf;obtain⟨ls,hl,rfl⟩:=Option.map_eq_some_iff.1 h;have hsz:2≤Tryz.prog.types.size:=Nat.succ_le_of_lt (Nat.lt_of_le_of_lt (Nat.succ_le_of_lt (Nat.pos_of_ne_zero (by decide:(235:Nat)≠0))) MR);obtain⟨m',rfl⟩:∃m',m=m'+1:=⟨m-1,by omega⟩;unfold Program.keyLits at hl;simp only[Tryz.underlying235] at hl
  split at hl
  ·rename_i hc
   rw[DA] at hc;have EA:=hf.2;simp only[Value.formed,Tryz.underlying235,DA] at EA
   split at EA
   ·rename_i cs
    obtain⟨c⟩:=cs;simp only[Value.cells] at hc hl;obtain⟨c0,c1,rfl⟩:=amn hc;simp only[Ju,List.range_succ,List.range_zero,List.nil_append,List.cons_append,List.mapM_cons,List.mapM_nil] at hl;simp only[Nat.zero_mul,Nat.one_mul,List.drop_zero,List.take_succ_cons,List.take_zero,List.drop_succ_cons] at hl;obtain⟨k0,h0⟩:=Option.map_eq_some_iff.1 hl;obtain⟨h0,hk⟩:=h0
    cases e0:Tryz.prog.keyLits (m'+2) 3 [c0] with
    | none=>rw[e0] at h0;cases h0
    | some x0=>
     cases e1:Tryz.prog.keyLits (m'+2) 3 [c1] with
     | none=>rw[e0,e1] at h0;cases h0
     | some x1=>
      rw[e0,e1] at h0;cases h0;obtain⟨z0,rfl,w0,rfl⟩:=Vx e0;obtain⟨z1,rfl,w1,rfl⟩:=Vx e1;refine⟨(z0,z1),⟨w0,w1⟩,rfl,?_⟩;rw[←hk];rfl
   ·cases EA
   cases EA
  cases hl
 cases h
end
section
open Go.RowKit Go.WideShapes

inductive Runes (s:ByteArray):Nat→List Int→Prop
 | nil (pos:Nat) (h:¬pos<s.size):Runes s pos []
 | cons (pos:Nat) (r:Int) (l:List Int) (h:pos<s.size) (hr:(Utf8.decode s pos).1=r) (hl:Runes s (pos+(Utf8.decode s pos).2) l):Runes s pos (r :: l)
structure PM(w:World)(b n:Nat)(l:List ((Int×Int)×Int))(D:DataW Unit):Prop where
 own:w.ownsMap Tryz.prog 235 (plainElem Tryz.prog 3) b n D
 is:Maps.IsMap D
 at_:∀x,dh x→D.atKey (dm x) (.lit (.int .i64 0))=.lit (.int .i64 ((Nf.lookW x l).getD 0))
 has:∀x,dh x→Maps.has D (dm x)=(Nf.lookW x l).isSome
theorem BN(x y:Int×Int)(w:Int):∀l,Nf.lookW x (l++[(y,w)])=if (Nf.lookW x l).isSome then Nf.lookW x l else if y=x then some w else none
 | []=>by simp[Nf.lookW]
 | z :: l=>by
  rw[List.cons_append,Nf.lookW,Nf.lookW];split
  ·simp
  exact BN x y w l
theorem PM.next{w w':World}{b n:Nat}{l:List ((Int×Int)×Int)}{D:DataW Unit}{x:Int×Int}{v:Int}(h:PM w b n l D)(hx:dh x)(hn:Nf.lookW x l=none)(ho:w'.ownsMap Tryz.prog 235 (plainElem Tryz.prog 3) b (n+1) (D.put (dm x) (.lit (.int .i64 v)))):PM w' b (n+1) (l++[(x,v)]) (D.put (dm x) (.lit (.int .i64 v))):=by
 refine⟨ho,h.is.put _ _,fun y hy=>?_,fun y hy=>?_⟩
 ·by_cases hm:y=x
  ·subst hm;rw[Maps.atKey_put_same h.is (by simp[WideAt.IsKeyLit,dm]),BN,hn];simp
  rw[Maps.atKey_put_other (fun e=>hm (Bz hy hx e)),h.at_ y hy,BN,if_neg (fun e:x=y=>hm e.symm)]
  cases Nf.lookW y l<;>rfl
 by_cases hm:y=x
 ·subst hm;rw[Maps.has_put_same h.is (by simp[WideAt.IsKeyLit,dm]),BN,hn];simp
 rw[Maps.has_put_other (fun e=>hm (Bz hy hx e)),h.has y hy,BN,if_neg (fun e:x=y=>hm e.symm)]
 cases Nf.lookW y l<;>rfl
theorem Mo{w w':World}{P:Program}{k:TypeId}{R:Value→Option (DataW Unit×List MemPlace)}{b n:Nat}{D:DataW Unit}(h:w.ownsMap P k R b n D)(e:w'.heap[b]?=w.heap[b]?):w'.ownsMap P k R b n D:=by
 obtain⟨es,clock,hb,rest⟩:=h;exact⟨es,clock,e.trans hb,rest⟩
theorem PM.go{w w':World}{b n:Nat}{l:List ((Int×Int)×Int)}{D:DataW Unit}(h:PM w b n l D)(hb:w'.heap[b]?=w.heap[b]?):PM w' b n l D:=⟨Mo h.own hb,h.is,h.at_,h.has⟩
theorem PM.nil(w:World):PM (w.alloc (.map #[] 0)) w.heap.size 0 [] (.map []):=⟨World.ownsMap_made _ _ _ _,Maps.isMap_empty,fun _ _=>rfl,fun _ _=>rfl⟩
def ar(l:List Int):List Value:=l.map fun z=>.int .i64 z
theorem VQ(x:Int×Int):∀l m,Nf.lookW x l=none→Nf.lookW x (l++m)=Nf.lookW x m
 | [],_,_=>rfl
 | z :: l,m,h=>by
  rw[Nf.lookW] at h;rw[List.cons_append,Nf.lookW]
  split at h
  ·cases h
  rename_i hz
  rw[if_neg hz];exact VQ x l m h
theorem VS(a mark:Int):∀ls ws,a∉ls→Nf.lookW (a,mark) (Nf.rowOf mark ls ws)=none
 | [],_,_=>by rw[Nf.rowOf];rfl;intro _ _ _ _ h;cases h
 | x :: ls,[],_=>by rw[Nf.rowOf];rfl;intro _ _ _ _ _ h;cases h
 | x :: ls,v :: ws,h=>by
  rw[Nf.rowOf,Nf.lookW,if_neg (fun e=>h (by cases e;exact List.mem_cons_self ..))];exact VS a mark ls ws fun hm=>h (List.mem_cons_of_mem _ hm)
theorem Xr(mark:Int):∀(ls ws:List Int) (j:Nat) (a v:Int),ls[j]?=some a→ws[j]?=some v→Nf.rowOf mark (ls.take (j+1)) (ws.take (j+1))=Nf.rowOf mark (ls.take j) (ws.take j)++[((a,mark),v)]
 | [],_,_,_,_,h,_=>by cases h
 | _ :: _,[],_,_,_,_,h=>by cases h
 | x :: ls,y :: ws,0,a,v,h1,h2=>by cases h1;cases h2;rfl
 | x :: ls,y :: ws,j+1,a,v,h1,h2=>by
  show _ :: Nf.rowOf mark (ls.take (j+1)) (ws.take (j+1))=_;rw[Xr mark ls ws j a v h1 h2];rfl
theorem amO{a:Int}(h:(Lit.int .i64 a).wf=true):-9223372036854775808≤a∧a≤9223372036854775807:=by
 have:=(Go.Lit.wf_int_iff .i64 a).1 h;exact this
theorem ag.Bw{R k:Nat}{w w1:World}(h:ag R w w1)(hk:w.heap.size≤k):∀(s:ByteArray) (q:Nat),ag R w (w1.iterAt k s q):=fun s q=>
 ⟨h.os,h.tape,h.output,by rw[Lib.iterAt_size];exact h.size,fun j hj hne=>(Lib.iterAt_other _ _ _ _ _ (by omega)).trans (h.block j hj hne)⟩
theorem ag.Rz{R g:Nat}{w w1:World}(h:ag R w w1)(hg:g<w.heap.size)(hne:g≠R)(i:Nat):w1.cell? ⟨g,i,none⟩=w.cell? ⟨g,i,none⟩:=by
 unfold World.cell?;dsimp only;rw[h.block g hg hne]
theorem ag.SV{R:Nat}{w w1 w2:World}(h:ag R w w1)(hg:w1.grownBy w2 (some R)):ag R w w2 :=
 ⟨hg.os.trans h.os,hg.tape.trans h.tape,hg.output.trans h.output,Nat.le_trans h.size hg.size,fun k hk hne=>(hg.block k (Nat.lt_of_lt_of_le hk h.size) (fun e=>hne (Option.some.inj e))).trans (h.block k hk hne)⟩
theorem Xq(mark:Int):∀(ls ws:List Int),Nf.rowOf mark ls (ws.take ls.length)=Nf.rowOf mark ls ws
 | [],ws=>by rw[Nf.rowOf,Nf.rowOf]<;>(intro _ _ _ _ h;cases h)
 | x :: ls,[]=>rfl
 | x :: ls,v :: ws=>by
  show _ :: Nf.rowOf mark ls (ws.take ls.length)=_;rw[Xq mark ls ws];rfl
theorem ahD{l:List Int}{j:Nat}{a:Int}(h:l.Nodup)(ha:l[j]?=some a):a∉l.take j:=by
 intro hm;obtain⟨i,hi,e⟩:=List.mem_take_iff_getElem.1 hm;obtain⟨h1,h2⟩:=List.getElem?_eq_some_iff.1 ha;have:=(List.getElem_inj h).1 (e.trans h2.symm);omega
theorem aj9(b n:Nat)(mark:Int)(s:ByteArray)(ls ws:List Int)(A:Option Addr)(c:Nat)(l:List ((Int×Int)×Int))(D:DataW Unit)(w:World)(h:PM w b n l D)(hs:Runes s 0 ls)(hr:Reads w w.heap.size 1 A ws.length (ar ws))(EK:ls.length≤ws.length)
  (nc:ls.Nodup) (fu:∀a∈ls,Nf.lookW (a,mark) l=none) (gG:∀a∈ls,dh (a,mark)) (qZ:∀v∈ws,(Lit.int .i64 v).wf=true) (hn:n+ls.length≤1000000) :
  Calls Tryz.prog 200 #[.map (some b),.int .i64 mark,.string s,.slice A ws.length c] w fun e w'=>∃D',e=.returned (.tuple #[])∧PM w' b (n+ls.length) (l++Nf.rowOf mark ls ws) D'∧ag b w w':=by
 have H:=hide h;have HS:=hide hs;have HR:=hide hr;have ZY:=hide nc;have ud:=hide fu;have HWf:=hide gG;have HWv:=hide qZ;have bM:=hide h.own.lt;clear h hs hr nc fu gG qZ;obtain⟨N,hN⟩:∃N,ls.length=N:=⟨_,rfl⟩;obtain⟨M,hM⟩:∃M,ws.length=M:=⟨_,rfl⟩;rw[hN] at EK hn ⊢;rw[hM] at EK HR ⊢;have HN:=hide hN;have HM:=hide hM;clear hN hM
 go_enter Tryz.func200,Tryz.ntmps200
 go_wp2
 go_loopg [8] N (fun gk vk wr=>∃(j pos:Nat) (D':DataW Unit),gk=N-j∧j≤N∧vk=.int .i64 (j:Int)∧Runes s pos (ls.drop j)∧PM wr b (n+j) (l++Nf.rowOf mark (ls.take j) (ws.take j)) D'∧wr.heap[w.heap.size]?=some (.stringIter s pos)∧ag b w wr)
 case atStart=>exact⟨0,0,D,rfl,by omega,rfl,HS.out,by rw[Nat.add_zero,List.take_zero,List.take_zero,show Nf.rowOf mark [] []=[] from rfl,List.append_nil];exact H.out.go (Below.heap_alloc w _ b bM.out),World.iter_heap _ _ _,(ag.refl b w).alloc _⟩
 case round=>
  obtain⟨j,pos,D',au,hj,rfl,EZ,hp,hit,hb⟩:=hrel;have Hg:=hide au;have HP:=hide hp;have HI:=hide hit;have HB:=hide hb;clear au hp hb
  by_cases hlt:j<N
  ·obtain⟨a,ha⟩:∃a,ls[j]?=some a:=⟨_,List.getElem?_eq_getElem (by rw[HN.out];exact hlt)⟩;obtain⟨v,hv⟩:∃v,ws[j]?=some v:=⟨_,List.getElem?_eq_getElem (by rw[HM.out];omega)⟩;obtain⟨q1,q2⟩:=List.getElem?_eq_some_iff.1 ha;rw[List.drop_eq_getElem_cons q1,q2] at EZ
   rcases EZ with _|⟨_,_,_,cM,ke,hl⟩
   have bB:∀ty,(Instr.next (.pointer (some ⟨w.heap.size,0,none⟩)) true ty).run Tryz.prog wr=_:=fun ty=>Lib.run_next_any_at wr w.heap.size s pos ty hit cM;rw[ke] at bB;have Hl:=hide hl;have Da:=hide cM;have Ha:=hide ha;have Hv:=hide hv;have dK:=HWf.out a (List.mem_of_getElem? ha);have hcv:IntKind.i64.wrap a=a:=IntWalk.i64_in _ (amO dK.1);obtain⟨gb,off,rfl,dA,hcell⟩:=HR.out.2 (by omega);have Gq:w.cell? ⟨gb,off+j,none⟩=some (.int .i64 v):=hcell j _ (by unfold ar;rw[List.getElem?_map,Hv.out];rfl)
   have Ui:gb≠b:=fun e=>by
    obtain⟨es,cl,ji,_⟩:=H.out.own;subst e;simp[World.cell?,ji] at Gq
   have hgi:gb≠w.heap.size:=Nat.ne_of_lt dA;have y0:wr.cell? ⟨gb,off+j,none⟩=some (.int .i64 v):=(HB.out.Rz dA Ui _).trans Gq;have y1:∀q,(wr.iterAt w.heap.size s q).cell? ⟨gb,off+j,none⟩=some (.int .i64 v):=fun q=>((HB.out.Bw (Nat.le_refl _) s q).Rz dA Ui _).trans Gq;clear Gq;have hjM:j<M:=by omega
   have Qh:=hide hit;have qZ:=HWv.out v (List.mem_of_getElem? Hv.out);have jQ:∀q,PM (wr.iterAt w.heap.size s q) b (n+j) (l++Nf.rowOf mark (ls.take j) (ws.take j)) D':=fun q=>HP.out.go (Lib.iterAt_other _ _ _ _ _ (Nat.ne_of_lt bM.out));have jQ:=hide jQ;have ER:n+j<maxLen:=by unfold maxLen;omega
   clear hl cM ha hv q1 q2 ke hcell hit
   go_wp2_with (at_mapUpdate;refine wpList_mapUpdate_own _ rfl _ _ _ 230 rfl 235 3 ow Tryz.underlying230 _ b (n+j) D' rfl (jQ.out _).own ER _ _ _ (by rfl) (by rfl) (ot dK) _ [] (plainElem_int Tryz.underlying3 qZ) ?_;intro w8 aM aF)
   go_roundg (N-(j+1))
   case measure=>have:=Hg.out;omega
   case rel=>
    have hrx:=Xr mark ls ws j a v Ha.out Hv.out;refine⟨j+1,_,D'.put (dm (a,mark)) (.lit (.int .i64 v)),rfl,by omega,by first|rfl|go_num,Hl.out,?_,?_,?_⟩
    ·rw[hrx,←List.append_assoc];refine PM.next (jQ.out 0) dK ?_ aM;rw[VQ _ _ _ (ud.out a (List.mem_of_getElem? Ha.out))];exact VS a mark _ _ (ahD ZY.out Ha.out)
    ·exact (aF.block _ (by rw[Lib.iterAt_size];exact (Array.getElem?_eq_some_iff.1 Qh.out).1) (fun e=>by have:=bM.out;cases e;omega)).trans (Lib.iterAt_heap _ _ _ _ _ Qh.out)
    exact (HB.out.Bw (Nat.le_refl _) _ _).SV aF
  have oc:j=N:=by omega
  subst oc;rw[List.drop_of_length_le (by rw[HN.out];exact Nat.le_refl _)] at EZ
  rcases EZ with ⟨_,cM⟩|_
  have bB:∀ty,(Instr.next (.pointer (some ⟨w.heap.size,0,none⟩)) true ty).run Tryz.prog wr=_:=fun ty=>Lib.run_next_end_at wr w.heap.size s pos ty hit cM;have Da:=hide cM;clear hit cM;go_wp2;go_end0;refine⟨D',rfl,?_,HB.out⟩;have hp:=HP.out;rw[List.take_of_length_le (by rw[HN.out];exact Nat.le_refl _),←HN.out,Xq] at hp;rwa[HN.out] at hp
end
section
open Go.RowKit Go.WideShapes

structure QM(w:World)(b n:Nat)(l:List ((Int×Int)×Int))(D:DataW Unit):Prop where
 own:w.ownsMap Tryz.prog 3 ry b n D
 at_:∀r z,D.atKey (.int .i64 r) z=((Nf.eU r l).map nk).getD z
 has:∀r,Maps.has D (.int .i64 r)=(Nf.eU r l).isSome
theorem yi{p:Int×Int}{v:Int}:∀{l:List ((Int×Int)×Int)},Nf.lookW p l=some v→(p,v)∈l
 | [],h=>by cases h
 | x :: l,h=>by
  rw[Nf.lookW] at h
  split at h
  ·rename_i hx;cases h;subst hx;exact List.mem_cons_self ..
  exact List.mem_cons_of_mem _ (yi h)
theorem VM{p:Int×Int}{v:Int}:∀{l:List ((Int×Int)×Int)},(l.map (·.2)).Nodup→(p,v)∈l→Nf.eU v l=some p
 | x :: l,hn,h=>by
  rw[List.map_cons,List.nodup_cons] at hn;rw[Nf.eU]
  rcases List.mem_cons.1 h with rfl|h
  ·rw[if_pos rfl]
  rw[if_neg (fun e=>hn.1 (by rw[e];exact List.mem_map_of_mem (f:=(·.2)) h))];exact VM hn.2 h
theorem FA{p:Int×Int}{v:Int}:∀{l:List ((Int×Int)×Int)},(l.map (·.1)).Nodup→(p,v)∈l→Nf.lookW p l=some v
 | x :: l,hn,h=>by
  rw[List.map_cons,List.nodup_cons] at hn;rw[Nf.lookW]
  rcases List.mem_cons.1 h with rfl|h
  ·rw[if_pos rfl]
  rw[if_neg (fun e=>hn.1 (by rw[e];exact List.mem_map_of_mem (f:=(·.1)) h))];exact FA hn.2 h
def Done(iO:DataW Unit)(l:List ((Int×Int)×Int))(left:Lit→Bool):Prop :=
 (∀r z,iO.atKey (.int .i64 r) z=match Nf.eU r l with|some x=>if left (dm x) then z else nk x|none=>z)∧
 ∀r,Maps.has iO (.int .i64 r)=match Nf.eU r l with|some x=>!left (dm x) | none=>false
theorem VC(x:Int×Int):(dm x).sameKey (dm x)=true:=by
 unfold dm;exact WideAt.sameKey_self (by simp[WideAt.IsKeyLit])
theorem Done.next{iO:DataW Unit}{l:List ((Int×Int)×Int)}{left:Lit→Bool}{x:Int×Int}{v:Int}(h:Done iO l left)(hi:Maps.IsMap iO)(hk:(l.map (·.1)).Nodup)(hv:(l.map (·.2)).Nodup)(gG:∀p∈l,dh p.1)(hx:dh x)(hm:(x,v)∈l):Done (iO.put (.int .i64 v) (nk x)) l (fun z=>left z && !z.sameKey (dm x)):=by
 have hl:=VM hv hm
 have hne:∀r y,r≠v→Nf.eU r l=some y→dm y≠dm x:=fun r y e hr h=>by
  have hy:=Nf.yh hr;have:=Bz (gG _ hy) hx h;subst this;have:=(FA hk hy).symm.trans (FA hk hm);exact e (Option.some.inj this)
 refine⟨fun r z=>?_,fun r=>?_⟩
 ·by_cases e:r=v
  ·subst e;rw[Maps.atKey_put_same hi (by simp[WideAt.IsKeyLit]),hl];simp[VC]
  rw[Maps.atKey_put_other (fun h=>e (by injection h)),h.1 r z]
  cases hr:Nf.eU r l with
  | none=>rfl
  | some y=>simp[Maps.sameKey_ne (hne r y e hr)]
 by_cases e:r=v
 ·subst e;rw[Maps.has_put_same hi (by simp[WideAt.IsKeyLit]),hl];simp[VC]
 rw[Maps.has_put_other (fun h=>e (by injection h)),h.2 r]
 cases hr:Nf.eU r l with
 | none=>rfl
 | some y=>simp[Maps.sameKey_ne (hne r y e hr)]
theorem Done.start{D:DataW Unit}{l:List ((Int×Int)×Int)}(hk:(l.map (·.1)).Nodup)(gG:∀p∈l,dh p.1)(hh:∀x,dh x→Maps.has D (dm x)=(Nf.lookW x l).isSome):Done (.map []) l (Maps.has D):=by
 have key:∀r y,Nf.eU r l=some y→Maps.has D (dm y)=true:=fun r y hr=>by
  have hy:=Nf.yh hr;rw[hh y (gG _ hy),FA hk hy];rfl
 refine⟨fun r z=>?_,fun r=>?_⟩
 ·cases hr:Nf.eU r l with
  | none=>rfl
  | some y=>simp[key r y hr];rfl
 cases hr:Nf.eU r l with
 | none=>rfl
 | some y=>simp[key r y hr];rfl
theorem Done.stop{w:World}{b n:Nat}{iO:DataW Unit}{l:List ((Int×Int)×Int)}{left:Lit→Bool}(h:Done iO l left)(h0:∀k,left k=false)(ho:w.ownsMap Tryz.prog 3 ry b n iO):QM w b n l iO:=by
 refine⟨ho,fun r z=>?_,fun r=>?_⟩
 ·rw[h.1 r z]
  cases hr:Nf.eU r l with
  | none=>rfl
  | some y=>simp[h0]
 rw[h.2 r]
 cases hr:Nf.eU r l with
 | none=>rfl
 | some y=>simp[h0]
theorem ad1(b n:Nat)(l:List ((Int×Int)×Int))(D:DataW Unit)(w:World)(h:PM w b n l D)(hk:(l.map (·.1)).Nodup)(hv:(l.map (·.2)).Nodup)(gG:∀p∈l,dh p.1)(hn:n≤1000000) :
  Calls Tryz.prog 201 #[.map (some b)] w fun e w'=>∃n' D',e=.returned (.map (some w.heap.size))∧QM w' w.heap.size n' l D'∧n'≤1000000∧Below w.heap.size w w':=by
 have jk:=@run_makeMap Tryz.prog;have aoA:Maps.size D≤1000000:=Nat.le_trans h.own.size_le hn;have bt:=h.own.lt;have hown:=h.own;have e1:(w.alloc (.map #[] 0)).heap.size=w.heap.size+1:=by simp
 have HS:=hide (Done.start hk gG h.has);have HH:=hide h;have Hk:=hide hk;have Hv:=hide hv;have uB:=hide gG;clear h hk hv gG
 go_enter Tryz.func201,Tryz.ntmps201
 go_wp2_with (first
  | (at_range;refine wpList_range_own _ rfl _ 230 rfl 235 3 ow Tryz.underlying230 _ b n _ rfl (hown.alloc _) ?_;intro w0 hrg0 hg0 hs0)
  | go_in)
 go_frame
 rw[e1] at hrg0 hs0 ⊢
 go_loopg [5] (Maps.size D) (fun gk _ wr=>∃(left:Lit→Bool) (cnt:Nat) (iO:DataW Unit),gk=cnt∧wr.ranges Tryz.prog 235 (plainElem Tryz.prog 3) b (w.heap.size+1) n D left cnt∧cnt≤Maps.size D∧
   wr.ownsMap Tryz.prog 3 ry w.heap.size (Maps.size D-cnt) iO∧Maps.IsMap iO∧Done iO l left∧(∀z,left z=true→Maps.has D z=true)∧Below w.heap.size w wr∧w.heap.size+2≤wr.heap.size)
 case atStart=>
  exact⟨_,_,.map [],rfl,hrg0,Nat.le_refl _,((World.ownsMap_made _ _ _ _).kept hg0 (by simp)).mono (Nat.zero_le _),Maps.isMap_empty,HS.out,fun _ h=>h,((Below.refl _ _).alloc (Nat.le_refl _) _).grown hg0 (by simp) (fun j hj=>by cases hj),by omega⟩
 case round=>
  obtain⟨left,cnt,iO,au,hrg,hcs,hout,sX,hA,mZ,bB,hsz⟩:=hrel;have Hg:=hide au;have HA:=hide hA;have zz:=hide mZ;have bC:=hide bB;clear au hA mZ bB
  go_wp2_with (first
   | (at_next;go_loud (refine wpList_next_ranges _ rfl _ rfl 235 ow (plainElem Tryz.prog 3) (fun x:Int×Int=>.agg #[.int .i64 x.1,.int .i64 x.2]) (fun z=>.int .i64 z) (fun key kl h=>by obtain⟨x,_,e,_⟩:=Vy h;exact⟨x,e⟩) (fun v y h=>by obtain⟨c,e,_⟩:=plainElem_int_inv Tryz.underlying3 h;exact⟨c,e⟩) b (w.heap.size+1) n _ _ _ rfl hrg ?_ ?_))
   | go_in)
  ·intro hc0 qJ;go_wp2;go_ret;exact⟨_,iO,rfl,HA.out.stop qJ hout,by omega,bC.out⟩
  intro x1 x2 c kl y1 y2 w1 cnt1 hkey hlx hy hat hrg1 hlt hg1 hs1 hen;obtain⟨x',hwx,ex,ekl⟩:=Vy hkey;have ex':(x1,x2)=x':=Xa ex;subst ex';subst ekl;obtain⟨c',ec,ey,hwc⟩:=plainElem_int_inv Tryz.underlying3 hy;cases ec;cases ey
  have xU:((x1,x2),c)∈l:=by
   have h1:=HH.out.at_ (x1,x2) hwx;rw[hat] at h1;have hh:=HH.out.has (x1,x2) hwx
   cases hl:Nf.lookW (x1,x2) l with
   | none=>
    rw[hl] at hh;have:=zz.out _ hlx;rw[hh] at this;cases this
   | some v=>
    rw[hl] at h1;injection h1 with h1
    injection h1 with _ h1
    rw[h1];exact yi hl
  have aaB:=hide xU;have Hhw:=hide hwx;have UF:=hout.kept hg1 (by simp);have Iy:=hide UF;have Hrg:=hide hrg1;have Hgr:=hide hg1;have e5:w1.heap.size=wr.heap.size:=hs1;have CY:=hide sX;have ER:Maps.size D-cnt<maxLen:=by unfold maxLen;omega
  clear ex hkey hlx hy hat hrg hrg1 hout UF hg1 xU hwx sX hown hrg0 hg0 hs0 jk
  go_wp2_with (first
   | (at_mapUpdate;go_loud (refine wpList_mapUpdate_own _ rfl _ _ _ 231 rfl 3 235 yg Tryz.underlying231 _ w.heap.size (Maps.size D-cnt) iO rfl (Iy.out.alloc _) ER _ _ _ (by rfl) (by rfl) (Maps.keyOf_int_mk Tryz.underlying3 hwc) _ [] (ME (x1,x2)) ?_);intro w2 afN cD;go_frame)
   | go_in)
  have e6:(w1.alloc (.cells #[.int .i64 x1,.int .i64 x2] 235)).heap.size=wr.heap.size+1:=by rw[World.size_alloc,e5]
  go_roundg cnt1
  case measure=>have:=Hg.out;omega
  case rel=>
   exact⟨_,cnt1,_,rfl,(Hrg.out.alloc _).kept cD (fun e=>by have:=Option.some.inj e;omega) (fun e=>by have:=Option.some.inj e;omega),by omega,afN.mono (by omega),CY.out.put _ _,HA.out.next CY.out Hk.out Hv.out uB.out Hhw.out aaB.out,
    fun z hz=>zz.out z (by simp only[Bool.and_eq_true] at hz;exact hz.1),
    ((bC.out.grown Hgr.out bC.out.size (fun j hj=>by cases hj;exact Nat.le_succ _)).alloc (by have:=bC.out.size;omega) _).grown cD (by have:=bC.out.size;omega) (fun j hj=>by cases hj;exact Nat.le_refl _),by have:=cD.size;omega⟩
end
section
open Go.RowKit Go.WideShapes

namespace Nf
abbrev t2:=rowOf 0x300 tC yM++rowOf 0x301 BB NZ
abbrev t3:=t2++rowOf 0x302 BC N5
abbrev t4:=t3++rowOf 0x303 BD N6
abbrev t5:=t4++rowOf 0x304 BF N7
abbrev t6:=t5++rowOf 0x306 BG N8
abbrev t7:=t6++rowOf 0x308 BH N9
abbrev t8:=t7++rowOf 0x30A BI Oa
abbrev t9:=t8++rowOf 0x30C BJ Oc
abbrev t10:=t9++rowOf 0x323 BK Od
abbrev t11:=t10++rowOf 0x327 BL Oe
end Nf
theorem Xh(w:World)(ws:List Int):Reads (w.alloc (.cells (ar ws).toArray 3)) (w.alloc (.cells (ar ws).toArray 3)).heap.size 1 (some ⟨w.heap.size,0,none⟩) ws.length (ar ws):=by
 refine⟨by simp[ar],fun _=>⟨w.heap.size,0,rfl,by simp,fun j u hu=>?_⟩⟩;rw[Nat.zero_add,(ae.new w 3 (ar ws).toArray).cell j]
 simpa using hu
theorem oH(b n:Nat)(mark:Int)(s:ByteArray)(ls ws:List Int)(l:List ((Int×Int)×Int))(hs:Runes s 0 ls)(EK:ls.length≤ws.length)
  (nc:ls.Nodup) (fu:∀a∈ls,Nf.lookW (a,mark) l=none) (gG:∀a∈ls,dh (a,mark)) (qZ:∀v∈ws,(Lit.int .i64 v).wf=true) (hn:n+ls.length≤1000000) (D:DataW Unit) (W:World) (h:PM W b n l D) :
  Calls Tryz.prog 200 #[.map (some b),.int .i64 mark,.string s,.slice (some ⟨W.heap.size,0,none⟩) ws.length ws.length] (W.alloc (.cells (ar ws).toArray 3)) fun e w'=>∃D',e=.returned (.tuple #[])∧PM w' b (n+ls.length) (l++Nf.rowOf mark ls ws) D'∧ag b W w':=by
 refine (aj9 b n mark s ls ws _ _ l D _ (h.go (Below.heap_alloc W _ b h.own.lt)) hs (Xh W ws) EK nc fu gG qZ hn).mono ?_;rintro e w' ⟨D',he,hp,hb⟩;exact⟨D',he,hp,((ag.refl b W).alloc _).trans hb⟩
theorem akj:Runes ⟨#[65,69,73,79,85,97,101,105,111,117]⟩ 0 Nf.tC:=by
 unfold Nf.tC
 repeat (refine .cons _ _ _ (by decide) (by decide) ?_)
 exact .nil _ (by decide)
theorem ajY(b:Nat)(D:DataW Unit)(W:World)(h:PM W b 0 ([]) D) :
  Calls Tryz.prog 200 #[.map (some b),.int .i64 768,.string ⟨#[65,69,73,79,85,97,101,105,111,117]⟩,.slice (some ⟨W.heap.size,0,none⟩) 10 10] (W.alloc (.cells #[.int .i64 192,.int .i64 200,.int .i64 204,.int .i64 210,.int .i64 217,.int .i64 224,.int .i64 232,.int .i64 236,.int .i64 242,.int .i64 249] 3)) fun e w'=>∃D',e=.returned (.tuple #[])∧PM w' b 10 (Nf.rowOf 0x300 Nf.tC Nf.yM) D'∧ag b W w' :=
 oH b 0 0x300 ⟨#[65,69,73,79,85,97,101,105,111,117]⟩ Nf.tC Nf.yM ([]) akj (by decide) (by decide) (by decide +kernel) (by unfold dh;decide +kernel) (by decide +kernel) (by decide) D W h
theorem akk:Runes ⟨#[65,69,73,79,85,89,97,101,105,111,117,121,195,170,195,188]⟩ 0 Nf.BB:=by
 unfold Nf.BB
 repeat (refine .cons _ _ _ (by decide) (by decide) ?_)
 exact .nil _ (by decide)
theorem ajZ(b:Nat)(D:DataW Unit)(W:World)(h:PM W b 10 (Nf.rowOf 0x300 Nf.tC Nf.yM) D) :
  Calls Tryz.prog 200 #[.map (some b),.int .i64 769,.string ⟨#[65,69,73,79,85,89,97,101,105,111,117,121,195,170,195,188]⟩,.slice (some ⟨W.heap.size,0,none⟩) 14 14] (W.alloc (.cells #[.int .i64 193,.int .i64 201,.int .i64 205,.int .i64 211,.int .i64 218,.int .i64 221,.int .i64 225,.int .i64 233,.int .i64 237,.int .i64 243,.int .i64 250,.int .i64 253,.int .i64 7871,.int .i64 472] 3)) fun e w'=>∃D',e=.returned (.tuple #[])∧PM w' b 24 (Nf.t2) D'∧ag b W w' :=
 oH b 10 0x301 ⟨#[65,69,73,79,85,89,97,101,105,111,117,121,195,170,195,188]⟩ Nf.BB Nf.NZ (Nf.rowOf 0x300 Nf.tC Nf.yM) akk (by decide) (by decide) (by decide +kernel) (by unfold dh;decide +kernel) (by decide +kernel) (by decide) D W h
theorem akl:Runes ⟨#[65,69,73,79,85,97,101,105,111,117,225,186,185]⟩ 0 Nf.BC:=by
 unfold Nf.BC
 repeat (refine .cons _ _ _ (by decide) (by decide) ?_)
 exact .nil _ (by decide)
theorem aj0(b:Nat)(D:DataW Unit)(W:World)(h:PM W b 24 (Nf.t2) D) :
  Calls Tryz.prog 200 #[.map (some b),.int .i64 770,.string ⟨#[65,69,73,79,85,97,101,105,111,117,225,186,185]⟩,.slice (some ⟨W.heap.size,0,none⟩) 11 11] (W.alloc (.cells #[.int .i64 194,.int .i64 202,.int .i64 206,.int .i64 212,.int .i64 219,.int .i64 226,.int .i64 234,.int .i64 238,.int .i64 244,.int .i64 251,.int .i64 7879] 3)) fun e w'=>∃D',e=.returned (.tuple #[])∧PM w' b 35 (Nf.t3) D'∧ag b W w' :=
 oH b 24 0x302 ⟨#[65,69,73,79,85,97,101,105,111,117,225,186,185]⟩ Nf.BC Nf.N5 (Nf.t2) akl (by decide) (by decide) (by decide +kernel) (by unfold dh;decide +kernel) (by decide +kernel) (by decide) D W h
theorem akm:Runes ⟨#[65,78,79,97,110,111]⟩ 0 Nf.BD:=by
 unfold Nf.BD
 repeat (refine .cons _ _ _ (by decide) (by decide) ?_)
 exact .nil _ (by decide)
theorem aj1(b:Nat)(D:DataW Unit)(W:World)(h:PM W b 35 (Nf.t3) D) :
  Calls Tryz.prog 200 #[.map (some b),.int .i64 771,.string ⟨#[65,78,79,97,110,111]⟩,.slice (some ⟨W.heap.size,0,none⟩) 6 6] (W.alloc (.cells #[.int .i64 195,.int .i64 209,.int .i64 213,.int .i64 227,.int .i64 241,.int .i64 245] 3)) fun e w'=>∃D',e=.returned (.tuple #[])∧PM w' b 41 (Nf.t4) D'∧ag b W w' :=
 oH b 35 0x303 ⟨#[65,78,79,97,110,111]⟩ Nf.BD Nf.N6 (Nf.t3) akm (by decide) (by decide) (by decide +kernel) (by unfold dh;decide +kernel) (by decide +kernel) (by decide) D W h
theorem akn:Runes ⟨#[195,188]⟩ 0 Nf.BF:=by
 unfold Nf.BF
 repeat (refine .cons _ _ _ (by decide) (by decide) ?_)
 exact .nil _ (by decide)
theorem aj2(b:Nat)(D:DataW Unit)(W:World)(h:PM W b 41 (Nf.t4) D) :
  Calls Tryz.prog 200 #[.map (some b),.int .i64 772,.string ⟨#[195,188]⟩,.slice (some ⟨W.heap.size,0,none⟩) 1 1] (W.alloc (.cells #[.int .i64 470] 3)) fun e w'=>∃D',e=.returned (.tuple #[])∧PM w' b 42 (Nf.t5) D'∧ag b W w' :=
 oH b 41 0x304 ⟨#[195,188]⟩ Nf.BF Nf.N7 (Nf.t4) akn (by decide) (by decide) (by decide +kernel) (by unfold dh;decide +kernel) (by decide +kernel) (by decide) D W h
theorem ako:Runes ⟨#[208,152,208,184]⟩ 0 Nf.BG:=by
 unfold Nf.BG
 repeat (refine .cons _ _ _ (by decide) (by decide) ?_)
 exact .nil _ (by decide)
theorem aj3(b:Nat)(D:DataW Unit)(W:World)(h:PM W b 42 (Nf.t5) D) :
  Calls Tryz.prog 200 #[.map (some b),.int .i64 774,.string ⟨#[208,152,208,184]⟩,.slice (some ⟨W.heap.size,0,none⟩) 2 2] (W.alloc (.cells #[.int .i64 1049,.int .i64 1081] 3)) fun e w'=>∃D',e=.returned (.tuple #[])∧PM w' b 44 (Nf.t6) D'∧ag b W w' :=
 oH b 42 0x306 ⟨#[208,152,208,184]⟩ Nf.BG Nf.N8 (Nf.t5) ako (by decide) (by decide) (by decide +kernel) (by unfold dh;decide +kernel) (by decide +kernel) (by decide) D W h
theorem akp:Runes ⟨#[65,69,73,79,85,97,101,105,111,117,121,208,149,208,181]⟩ 0 Nf.BH:=by
 unfold Nf.BH
 repeat (refine .cons _ _ _ (by decide) (by decide) ?_)
 exact .nil _ (by decide)
theorem aj4(b:Nat)(D:DataW Unit)(W:World)(h:PM W b 44 (Nf.t6) D) :
  Calls Tryz.prog 200 #[.map (some b),.int .i64 776,.string ⟨#[65,69,73,79,85,97,101,105,111,117,121,208,149,208,181]⟩,.slice (some ⟨W.heap.size,0,none⟩) 13 13] (W.alloc (.cells #[.int .i64 196,.int .i64 203,.int .i64 207,.int .i64 214,.int .i64 220,.int .i64 228,.int .i64 235,.int .i64 239,.int .i64 246,.int .i64 252,.int .i64 255,.int .i64 1025,.int .i64 1105] 3)) fun e w'=>∃D',e=.returned (.tuple #[])∧PM w' b 57 (Nf.t7) D'∧ag b W w' :=
 oH b 44 0x308 ⟨#[65,69,73,79,85,97,101,105,111,117,121,208,149,208,181]⟩ Nf.BH Nf.N9 (Nf.t6) akp (by decide) (by decide) (by decide +kernel) (by unfold dh;decide +kernel) (by decide +kernel) (by decide) D W h
theorem akq:Runes ⟨#[65,97]⟩ 0 Nf.BI:=by
 unfold Nf.BI
 repeat (refine .cons _ _ _ (by decide) (by decide) ?_)
 exact .nil _ (by decide)
theorem aj5(b:Nat)(D:DataW Unit)(W:World)(h:PM W b 57 (Nf.t7) D) :
  Calls Tryz.prog 200 #[.map (some b),.int .i64 778,.string ⟨#[65,97]⟩,.slice (some ⟨W.heap.size,0,none⟩) 2 2] (W.alloc (.cells #[.int .i64 197,.int .i64 229] 3)) fun e w'=>∃D',e=.returned (.tuple #[])∧PM w' b 59 (Nf.t8) D'∧ag b W w' :=
 oH b 57 0x30A ⟨#[65,97]⟩ Nf.BI Nf.Oa (Nf.t7) akq (by decide) (by decide) (by decide +kernel) (by unfold dh;decide +kernel) (by decide +kernel) (by decide) D W h
theorem akr:Runes ⟨#[67,83,90,99,115,122]⟩ 0 Nf.BJ:=by
 unfold Nf.BJ
 repeat (refine .cons _ _ _ (by decide) (by decide) ?_)
 exact .nil _ (by decide)
theorem aj6(b:Nat)(D:DataW Unit)(W:World)(h:PM W b 59 (Nf.t8) D) :
  Calls Tryz.prog 200 #[.map (some b),.int .i64 780,.string ⟨#[67,83,90,99,115,122]⟩,.slice (some ⟨W.heap.size,0,none⟩) 6 6] (W.alloc (.cells #[.int .i64 268,.int .i64 352,.int .i64 381,.int .i64 269,.int .i64 353,.int .i64 382] 3)) fun e w'=>∃D',e=.returned (.tuple #[])∧PM w' b 65 (Nf.t9) D'∧ag b W w' :=
 oH b 59 0x30C ⟨#[67,83,90,99,115,122]⟩ Nf.BJ Nf.Oc (Nf.t8) akr (by decide) (by decide) (by decide +kernel) (by unfold dh;decide +kernel) (by decide +kernel) (by decide) D W h
theorem aks:Runes ⟨#[101]⟩ 0 Nf.BK:=by
 unfold Nf.BK
 repeat (refine .cons _ _ _ (by decide) (by decide) ?_)
 exact .nil _ (by decide)
theorem aj7(b:Nat)(D:DataW Unit)(W:World)(h:PM W b 65 (Nf.t9) D) :
  Calls Tryz.prog 200 #[.map (some b),.int .i64 803,.string ⟨#[101]⟩,.slice (some ⟨W.heap.size,0,none⟩) 1 1] (W.alloc (.cells #[.int .i64 7865] 3)) fun e w'=>∃D',e=.returned (.tuple #[])∧PM w' b 66 (Nf.t10) D'∧ag b W w' :=
 oH b 65 0x323 ⟨#[101]⟩ Nf.BK Nf.Od (Nf.t9) aks (by decide) (by decide) (by decide +kernel) (by unfold dh;decide +kernel) (by decide +kernel) (by decide) D W h
theorem akt:Runes ⟨#[67,99]⟩ 0 Nf.BL:=by
 unfold Nf.BL
 repeat (refine .cons _ _ _ (by decide) (by decide) ?_)
 exact .nil _ (by decide)
theorem aj8(b:Nat)(D:DataW Unit)(W:World)(h:PM W b 66 (Nf.t10) D) :
  Calls Tryz.prog 200 #[.map (some b),.int .i64 807,.string ⟨#[67,99]⟩,.slice (some ⟨W.heap.size,0,none⟩) 2 2] (W.alloc (.cells #[.int .i64 199,.int .i64 231] 3)) fun e w'=>∃D',e=.returned (.tuple #[])∧PM w' b 68 (Nf.t11) D'∧ag b W w' :=
 oH b 66 0x327 ⟨#[67,99]⟩ Nf.BL Nf.Oe (Nf.t10) akt (by decide) (by decide) (by decide +kernel) (by unfold dh;decide +kernel) (by decide +kernel) (by decide) D W h

theorem alR{a:Act}{W:World}{N:Nat}{v0 v1:Value}{Q:Ending→World→Prop}(ha:a.tmps.getD 0 undef=.pointer (some ⟨N,0,none⟩))(hd:a.defers=[])(hK:ae W N 233 #[v0,v1])(hQ:Q (.returned (.agg #[v0,v1])) W):bodyPost Tryz.prog Tryz.f191 Q Exit.ret a W :=
 bodyPost_ret (results_cell_row (fn:=Tryz.f191) rfl a.tmps W N 233 #[v0,v1] (0,0) _ ha hK Tryz.underlying233 rfl (by kernel_rfl)) hd hQ
theorem alT:∀p∈Nf.table,dh p.1:=by unfold dh;decide +kernel
theorem Yf(w:World) :
  Calls Tryz.prog 191 #[] w fun e w'=>∃m q n n' D D',e=.returned (.agg #[.map (some m),.map (some q)])∧PM w' m n Nf.table D∧QM w' q n' Nf.table D'∧Below w.heap.size w w':=by
 have jk:=@run_makeMap Tryz.prog;obtain⟨W0,nW⟩:∃W0,(w.alloc (.cells #[.map none,.map none] 233)).alloc (.map #[] 0)=W0:=⟨_,rfl⟩
 have P0:=hide (show PM W0 (w.heap.size+1) 0 [] (.map []) by
  have:=PM.nil (w.alloc (.cells #[.map none,.map none] 233));rw[World.size_alloc,nW] at this;exact this)
 have B0:=hide (ag.refl (w.heap.size+1) W0);have S0:=hide (show W0.heap.size=w.heap.size+2 by rw[←nW];simp)
 go_enter Tryz.func191,Tryz.ntmps191
 go_wp2_with fail
 refine (ajY (w.heap.size+1) _ W0 P0.out).mono ?_;rintro e w1 ⟨D1,rfl,hp,hb⟩;have P1:=hide hp;have B1:=hide (B0.out.trans hb);clear hp hb
 go_wp2_with fail
 refine (ajZ (w.heap.size+1) _ w1 P1.out).mono ?_;rintro e w2 ⟨D2,rfl,hp,hb⟩;have P2:=hide hp;have B2:=hide (B1.out.trans hb);clear hp hb
 go_wp2_with fail
 refine (aj0 (w.heap.size+1) _ w2 P2.out).mono ?_;rintro e w3 ⟨D3,rfl,hp,hb⟩;have P3:=hide hp;have B3:=hide (B2.out.trans hb);clear hp hb
 go_wp2_with fail
 refine (aj1 (w.heap.size+1) _ w3 P3.out).mono ?_;rintro e w4 ⟨D4,rfl,hp,hb⟩;have P4:=hide hp;have B4:=hide (B3.out.trans hb);clear hp hb
 go_wp2_with fail
 refine (aj2 (w.heap.size+1) _ w4 P4.out).mono ?_;rintro e w5 ⟨D5,rfl,hp,hb⟩;have P5:=hide hp;have B5:=hide (B4.out.trans hb);clear hp hb
 go_wp2_with fail
 refine (aj3 (w.heap.size+1) _ w5 P5.out).mono ?_;rintro e w6 ⟨D6,rfl,hp,hb⟩;have P6:=hide hp;have B6:=hide (B5.out.trans hb);clear hp hb
 go_wp2_with fail
 refine (aj4 (w.heap.size+1) _ w6 P6.out).mono ?_;rintro e w7 ⟨D7,rfl,hp,hb⟩;have P7:=hide hp;have B7:=hide (B6.out.trans hb);clear hp hb
 go_wp2_with fail
 refine (aj5 (w.heap.size+1) _ w7 P7.out).mono ?_;rintro e w8 ⟨D8,rfl,hp,hb⟩;have P8:=hide hp;have B8:=hide (B7.out.trans hb);clear hp hb
 go_wp2_with fail
 refine (aj6 (w.heap.size+1) _ w8 P8.out).mono ?_;rintro e w9 ⟨D9,rfl,hp,hb⟩;have P9:=hide hp;have B9:=hide (B8.out.trans hb);clear hp hb
 go_wp2_with fail
 refine (aj7 (w.heap.size+1) _ w9 P9.out).mono ?_;rintro e ny ⟨D10,rfl,hp,hb⟩;have P10:=hide hp;have Za:=hide (B9.out.trans hb);clear hp hb
 go_wp2_with fail
 refine (aj8 (w.heap.size+1) _ ny P10.out).mono ?_;rintro e yL ⟨D11,rfl,hp,hb⟩;have zL:=hide hp;have Ou:=hide (Za.out.trans hb);clear hp hb
 go_wp2_with fail
 refine (ad1 (w.heap.size+1) _ Nf.table _ yL zL.out Nf.alO Nf.alS alT (by decide)).mono ?_;rintro e Gk ⟨n',D',rfl,hq,hn',hb⟩;have HQ:=hide hq;have HP:=hide (zL.out.go (hb.block _ zL.out.own.lt));have bu:=Ou.out.go hb;have b9:ae Gk w.heap.size 233 #[.map none,.map none]:=bu.blk (by rw[←nW];exact (ae.new w _ _).alloc _) (by omega);have c0:=b9.cell 0;have c1:=b9.cell 1;have f0:=b9.frozen 0;have f1:=b9.frozen 1
 have HB:=hide (show Below w.heap.size w Gk from by
  have h0:Below w.heap.size w W0:=by rw[←nW];exact (az w _).trans ((az _ _).mono (by simp))
  exact h0.trans (bu.below (by omega) h0.size))
 have HK:=hide b9;have hqb:=hq.own.lt;clear hq hb bu b9;go_wp2;have h2:=((HK.out.aI 0 (.map (some (w.heap.size+1)))).aI 1 (.map (some yL.heap.size)));refine alR rfl rfl h2 ?_;have aoX:w.heap.size+2≤yL.heap.size:=by rw[←S0.out];exact Ou.out.size
 exact⟨w.heap.size+1,yL.heap.size,_,n',_,D',rfl,HP.out.go (by rw[Below.heap_setCell _ _ _ _ (by simp),Below.heap_setCell _ _ _ _ (by simp)]),⟨Mo HQ.out.own (by rw[Below.heap_setCell _ _ _ _ (by show yL.heap.size≠w.heap.size;omega),Below.heap_setCell _ _ _ _ (by show yL.heap.size≠w.heap.size;omega)]),HQ.out.at_,HQ.out.has⟩,(HB.out.setCell (Nat.le_refl _) _).setCell (Nat.le_refl _) _⟩
end
end Go.Proofs.YtnbmfljhbpfilaaGreatDoor
