/- NFC: keys that are pairs of numbers; the elements that are pairs. And more. -/
import Derived.Test.YtpdkeckeekchlaaGreatDoorOt21
import Derived.Maps.Own
import Derived.Maps.OwnOps
import Derived.Maps.RangeWalk
import Derived.Maps.Ext
import Derived.Maps.Views
import Derived.Lib.OthersKept
import Derived.WalkSmall
import Derived.DataShut
set_option linter.unusedSimpArgs false
set_option maxRecDepth 100000
set_option maxHeartbeats 8000000
set_option linter.unusedVariables false
namespace Go.Proofs.YtpdkeckeekchlaaGreatDoor
section
open Go.RowKit Go.WideShapes

theorem Wc:laidOutB Tryz.prog=true:=by kernel_rfl
theorem NA:(266:TypeId)<Tryz.prog.types.size:=of_decide_eq_true (by kernel_rfl)
theorem ab9:Tryz.prog.keyTypeAt 2 266=true:=by kernel_rfl
theorem V6:WideMaps.KeyLaw Tryz.prog 266:=deep_law_laid Wc (m:=2) (by decide) NA ab9 (by rw[Tryz.underlying266])
theorem oX:Maps.Keyed Tryz.prog 266:=Maps.Keyed.of_law V6
theorem yI:Maps.Keyed Tryz.prog 3:=Maps.int_keyed Tryz.underlying3
theorem Ey:Tryz.prog.cellsOf 266=2:=by kernel_rfl
theorem J4:Tryz.prog.cellsOf 3=1:=by kernel_rfl
theorem ag5:Tryz.prog.keyType 266=true:=by kernel_rfl
theorem Oa:∃m,Tryz.prog.types.size=m+1:=by
 have h:=NA;generalize Tryz.prog.types.size=s at h
 cases s with
 | zero=>cases h
 | succ m=>exact⟨m,rfl⟩
def o8(x:Int×Int):Value:=.agg #[.int .i64 x.1,.int .i64 x.2]
def di(x:Int×Int):Lit:=.string (keyBytes [.int .i64 x.1,.int .i64 x.2])
def cZ(x:Int×Int):Prop:=(Lit.int .i64 x.1).wf=true∧(Lit.int .i64 x.2).wf=true
theorem oW{x:Int×Int}(h:cZ x):keyOf Tryz.prog 266 (o8 x)=some (di x):=by
 obtain⟨m,hm⟩:=Oa;obtain⟨h1,h2⟩:=h;unfold keyOf o8;simp only[Tryz.underlying266];rw[if_pos (by simp[ag5,Value.formed,Tryz.underlying266,Ey]),hm];unfold Program.keyLits;simp only[Tryz.underlying266,Value.cells];simp[Ey,J4,Program.keyLits,Tryz.underlying3,h1,h2,List.range_succ,List.mapM_cons,di]
theorem XB{x y:Int×Int}(h:o8 x=o8 y):x=y:=by
 unfold o8 at h;simp only[Value.agg.injEq,Array.mk.injEq,List.cons.injEq,Value.int.injEq,true_and,and_true] at h;exact Prod.ext h.1 h.2
theorem Cl{x y:Int×Int}(hx:cZ x)(hy:cZ y)(h:di x=di y):x=y :=
 XB (V6.inj (oW hx) (by rw[h];exact oW hy))
def Xj:List Value→Option (DataW Unit×List MemPlace)
 | [.int .i64 a,.int .i64 b]=>some (.agg [.lit (.int .i64 a),.lit (.int .i64 b)],[])
 | _=>none
def r7(v:Value):Option (DataW Unit×List MemPlace):=match v with
 | .agg cs=>Xj cs.toList
 | _=>none
def nS(x:Int×Int):DataW Unit:=.agg [.lit (.int .i64 x.1),.lit (.int .i64 x.2)]
theorem Nl(x:Int×Int):r7 (o8 x)=some (nS x,[]):=rfl
theorem aiU{v:Value}{y:DataW Unit×List MemPlace}(h:r7 v=some y):∃x,v=o8 x∧y=(nS x,[]):=by
 unfold r7 at h
 split at h
 ·rename_i cs
  unfold Xj at h
  split at h
  ·rename_i a b he
   cases h;refine⟨(a,b),?_,rfl⟩;unfold o8;congr 1;exact Array.ext' he
  cases h
 cases h
theorem am1{c:List Value}(h:c.length=2):∃c0 c1,c=[c0,c1]:=by
 match c,h with
 | [c0,c1],_=>exact⟨c0,c1,rfl⟩
theorem VZ{m:Nat}{c:Value}{x:List Lit}(h:Tryz.prog.keyLits (m+1) 3 [c]=some x):∃z,c=.int .i64 z∧(Lit.int .i64 z).wf=true∧x=[.int .i64 z]:=by
 cases c<;>simp[Program.keyLits,Tryz.underlying3] at h
 obtain⟨⟨rfl,hw⟩,rfl⟩:=h;exact⟨_,rfl,hw,rfl⟩
theorem V4{key:Value}{kl:Lit}(h:keyOf Tryz.prog 266 key=some kl):∃x,cZ x∧key=o8 x∧kl=di x:=by
 obtain⟨m,hm⟩:=Oa;unfold keyOf at h;simp only[Tryz.underlying266] at h
 split at h
 ·rename_i hf
  rw[hm] at h;simp only[Bool.and_eq_true] at hf;obtain⟨ls,hl,rfl⟩:=Option.map_eq_some_iff.1 h;have hsz:2≤Tryz.prog.types.size:=Nat.succ_le_of_lt (Nat.lt_of_le_of_lt (Nat.succ_le_of_lt (Nat.pos_of_ne_zero (by decide:(266:Nat)≠0))) NA);obtain⟨m',rfl⟩:∃m',m=m'+1:=⟨m-1,by omega⟩;unfold Program.keyLits at hl;simp only[Tryz.underlying266] at hl
  split at hl
  ·rename_i hc
   rw[Ey] at hc;have Fe:=hf.2;simp only[Value.formed,Tryz.underlying266,Ey] at Fe
   split at Fe
   ·rename_i cs
    obtain⟨c⟩:=cs;simp only[Value.cells] at hc hl;obtain⟨c0,c1,rfl⟩:=am1 hc;simp only[J4,List.range_succ,List.range_zero,List.nil_append,List.cons_append,List.mapM_cons,List.mapM_nil] at hl;simp only[Nat.zero_mul,Nat.one_mul,List.drop_zero,List.take_succ_cons,List.take_zero,List.drop_succ_cons] at hl;obtain⟨k0,h0⟩:=Option.map_eq_some_iff.1 hl;obtain⟨h0,hk⟩:=h0
    cases e0:Tryz.prog.keyLits (m'+2) 3 [c0] with
    | none=>rw[e0] at h0;cases h0
    | some x0=>
     cases e1:Tryz.prog.keyLits (m'+2) 3 [c1] with
     | none=>rw[e0,e1] at h0;cases h0
     | some x1=>
      rw[e0,e1] at h0;cases h0;obtain⟨z0,rfl,w0,rfl⟩:=VZ e0;obtain⟨z1,rfl,w1,rfl⟩:=VZ e1;refine⟨(z0,z1),⟨w0,w1⟩,rfl,?_⟩;rw[←hk];rfl
   ·cases Fe
   cases Fe
  cases hl
 cases h
end
section
open Go.RowKit Go.WideShapes

inductive Runes (s:ByteArray):Nat→List Int→Prop
 | nil (pos:Nat) (h:¬pos<s.size):Runes s pos []
 | cons (pos:Nat) (r:Int) (l:List Int) (h:pos<s.size) (hr:(Utf8.decode s pos).1=r) (hl:Runes s (pos+(Utf8.decode s pos).2) l):Runes s pos (r :: l)
structure PM(w:World)(b n:Nat)(l:List ((Int×Int)×Int))(D:DataW Unit):Prop where
 own:w.ownsMap Tryz.prog 266 (plainElem Tryz.prog 3) b n D
 is:Maps.IsMap D
 at_:∀x,cZ x→D.atKey (di x) (.lit (.int .i64 0))=.lit (.int .i64 ((Nf.lookW x l).getD 0))
 has:∀x,cZ x→Maps.has D (di x)=(Nf.lookW x l).isSome
theorem Cz(x y:Int×Int)(w:Int):∀l,Nf.lookW x (l++[(y,w)])=if (Nf.lookW x l).isSome then Nf.lookW x l else if y=x then some w else none
 | []=>by simp[Nf.lookW]
 | z :: l=>by
  rw[List.cons_append,Nf.lookW,Nf.lookW];split
  ·simp
  exact Cz x y w l
theorem PM.next{w w':World}{b n:Nat}{l:List ((Int×Int)×Int)}{D:DataW Unit}{x:Int×Int}{v:Int}(h:PM w b n l D)(hx:cZ x)(hn:Nf.lookW x l=none)(ho:w'.ownsMap Tryz.prog 266 (plainElem Tryz.prog 3) b (n+1) (D.put (di x) (.lit (.int .i64 v)))):PM w' b (n+1) (l++[(x,v)]) (D.put (di x) (.lit (.int .i64 v))):=by
 refine⟨ho,h.is.put _ _,fun y hy=>?_,fun y hy=>?_⟩
 ·by_cases hm:y=x
  ·subst hm;rw[Maps.atKey_put_same h.is (by simp[WideAt.IsKeyLit,di]),Cz,hn];simp
  rw[Maps.atKey_put_other (fun e=>hm (Cl hy hx e)),h.at_ y hy,Cz,if_neg (fun e:x=y=>hm e.symm)]
  cases Nf.lookW y l<;>rfl
 by_cases hm:y=x
 ·subst hm;rw[Maps.has_put_same h.is (by simp[WideAt.IsKeyLit,di]),Cz,hn];simp
 rw[Maps.has_put_other (fun e=>hm (Cl hy hx e)),h.has y hy,Cz,if_neg (fun e:x=y=>hm e.symm)]
 cases Nf.lookW y l<;>rfl
theorem MU{w w':World}{P:Program}{k:TypeId}{R:Value→Option (DataW Unit×List MemPlace)}{b n:Nat}{D:DataW Unit}(h:w.ownsMap P k R b n D)(e:w'.heap[b]?=w.heap[b]?):w'.ownsMap P k R b n D:=by
 obtain⟨es,clock,hb,rest⟩:=h;exact⟨es,clock,e.trans hb,rest⟩
theorem PM.go{w w':World}{b n:Nat}{l:List ((Int×Int)×Int)}{D:DataW Unit}(h:PM w b n l D)(hb:w'.heap[b]?=w.heap[b]?):PM w' b n l D:=⟨MU h.own hb,h.is,h.at_,h.has⟩
theorem PM.nil(w:World):PM (w.alloc (.map #[] 0)) w.heap.size 0 [] (.map []):=⟨World.ownsMap_made _ _ _ _,Maps.isMap_empty,fun _ _=>rfl,fun _ _=>rfl⟩
def aq(l:List Int):List Value:=l.map fun z=>.int .i64 z
theorem Wq(x:Int×Int):∀l m,Nf.lookW x l=none→Nf.lookW x (l++m)=Nf.lookW x m
 | [],_,_=>rfl
 | z :: l,m,h=>by
  rw[Nf.lookW] at h;rw[List.cons_append,Nf.lookW]
  split at h
  ·cases h
  rename_i hz
  rw[if_neg hz];exact Wq x l m h
theorem Wt(a mark:Int):∀ls ws,a∉ls→Nf.lookW (a,mark) (Nf.rowOf mark ls ws)=none
 | [],_,_=>by rw[Nf.rowOf];rfl;intro _ _ _ _ h;cases h
 | x :: ls,[],_=>by rw[Nf.rowOf];rfl;intro _ _ _ _ _ h;cases h
 | x :: ls,v :: ws,h=>by
  rw[Nf.rowOf,Nf.lookW,if_neg (fun e=>h (by cases e;exact List.mem_cons_self ..))];exact Wt a mark ls ws fun hm=>h (List.mem_cons_of_mem _ hm)
theorem XU(mark:Int):∀(ls ws:List Int) (j:Nat) (a v:Int),ls[j]?=some a→ws[j]?=some v→Nf.rowOf mark (ls.take (j+1)) (ws.take (j+1))=Nf.rowOf mark (ls.take j) (ws.take j)++[((a,mark),v)]
 | [],_,_,_,_,h,_=>by cases h
 | _ :: _,[],_,_,_,_,h=>by cases h
 | x :: ls,y :: ws,0,a,v,h1,h2=>by cases h1;cases h2;rfl
 | x :: ls,y :: ws,j+1,a,v,h1,h2=>by
  show _ :: Nf.rowOf mark (ls.take (j+1)) (ws.take (j+1))=_;rw[XU mark ls ws j a v h1 h2];rfl
theorem anq{a:Int}(h:(Lit.int .i64 a).wf=true):-9223372036854775808≤a∧a≤9223372036854775807:=by
 have:=(Go.Lit.wf_int_iff .i64 a).1 h;exact this
theorem ai.Ck{R k:Nat}{w w1:World}(h:ai R w w1)(hk:w.heap.size≤k):∀(s:ByteArray) (q:Nat),ai R w (w1.iterAt k s q):=fun s q=>
 ⟨h.os,h.tape,h.output,by rw[Lib.iterAt_size];exact h.size,fun j hj hne=>(Lib.iterAt_other _ _ _ _ _ (by omega)).trans (h.block j hj hne)⟩
theorem ai.Sh{R g:Nat}{w w1:World}(h:ai R w w1)(hg:g<w.heap.size)(hne:g≠R)(i:Nat):w1.cell? ⟨g,i,none⟩=w.cell? ⟨g,i,none⟩:=by
 unfold World.cell?;dsimp only;rw[h.block g hg hne]
theorem ai.Tz{R:Nat}{w w1 w2:World}(h:ai R w w1)(hg:w1.grownBy w2 (some R)):ai R w w2 :=
 ⟨hg.os.trans h.os,hg.tape.trans h.tape,hg.output.trans h.output,Nat.le_trans h.size hg.size,fun k hk hne=>(hg.block k (Nat.lt_of_lt_of_le hk h.size) (fun e=>hne (Option.some.inj e))).trans (h.block k hk hne)⟩
theorem XT(mark:Int):∀(ls ws:List Int),Nf.rowOf mark ls (ws.take ls.length)=Nf.rowOf mark ls ws
 | [],ws=>by rw[Nf.rowOf,Nf.rowOf]<;>(intro _ _ _ _ h;cases h)
 | x :: ls,[]=>rfl
 | x :: ls,v :: ws=>by
  show _ :: Nf.rowOf mark ls (ws.take ls.length)=_;rw[XT mark ls ws];rfl
theorem ah1{l:List Int}{j:Nat}{a:Int}(h:l.Nodup)(ha:l[j]?=some a):a∉l.take j:=by
 intro hm;obtain⟨i,hi,e⟩:=List.mem_take_iff_getElem.1 hm;obtain⟨h1,h2⟩:=List.getElem?_eq_some_iff.1 ha;have:=(List.getElem_inj h).1 (e.trans h2.symm);omega
theorem akE(b n:Nat)(mark:Int)(s:ByteArray)(ls ws:List Int)(A:Option Addr)(c:Nat)(l:List ((Int×Int)×Int))(D:DataW Unit)(w:World)(h:PM w b n l D)(hs:Runes s 0 ls)(hr:Reads w w.heap.size 1 A ws.length (aq ws))(Fs:ls.length≤ws.length)
  (pY:ls.Nodup) (fJ:∀a∈ls,Nf.lookW (a,mark) l=none) (gT:∀a∈ls,cZ (a,mark)) (rS:∀v∈ws,(Lit.int .i64 v).wf=true) (hn:n+ls.length≤1000000) :
  Calls Tryz.prog 231 #[.map (some b),.int .i64 mark,.string s,.slice A ws.length c] w fun e w'=>∃D',e=.returned (.tuple #[])∧PM w' b (n+ls.length) (l++Nf.rowOf mark ls ws) D'∧ai b w w':=by
 have H:=ap h;have HS:=ap hs;have HR:=ap hr;have HNd:=ap pY;have n5:=ap fJ;have HWf:=ap gT;have HWv:=ap rS;have bO:=ap h.own.lt;clear h hs hr pY fJ gT rS;obtain⟨N,hN⟩:∃N,ls.length=N:=⟨_,rfl⟩;obtain⟨M,hM⟩:∃M,ws.length=M:=⟨_,rfl⟩;rw[hN] at Fs hn ⊢;rw[hM] at Fs HR ⊢;have HN:=ap hN;have HM:=ap hM;clear hN hM
 go_enter Tryz.func231,Tryz.ntmps231
 go_wp2
 go_loopg [8] N (fun gk vk wr=>∃(j pos:Nat) (D':DataW Unit),gk=N-j∧j≤N∧vk=.int .i64 (j:Int)∧Runes s pos (ls.drop j)∧PM wr b (n+j) (l++Nf.rowOf mark (ls.take j) (ws.take j)) D'∧wr.heap[w.heap.size]?=some (.stringIter s pos)∧ai b w wr)
 case atStart=>exact⟨0,0,D,rfl,by omega,rfl,HS.o,by rw[Nat.add_zero,List.take_zero,List.take_zero,show Nf.rowOf mark [] []=[] from rfl,List.append_nil];exact H.o.go (Below.heap_alloc w _ b bO.o),World.iter_heap _ _ _,(ai.refl b w).alloc _⟩
 case round=>
  obtain⟨j,pos,D',au,hj,rfl,FF,hp,hit,hb⟩:=hrel;have Hg:=ap au;have HP:=ap hp;have HI:=ap hit;have HB:=ap hb;clear au hp hb
  by_cases hlt:j<N
  ·obtain⟨a,ha⟩:∃a,ls[j]?=some a:=⟨_,List.getElem?_eq_getElem (by rw[HN.o];exact hlt)⟩;obtain⟨v,hv⟩:∃v,ws[j]?=some v:=⟨_,List.getElem?_eq_getElem (by rw[HM.o];omega)⟩;obtain⟨q1,q2⟩:=List.getElem?_eq_some_iff.1 ha;rw[List.drop_eq_getElem_cons q1,q2] at FF
   rcases FF with _|⟨_,_,_,cP,kA,hl⟩
   have aX:∀ty,(Instr.next (.pointer (some ⟨w.heap.size,0,none⟩)) true ty).run Tryz.prog wr=_:=fun ty=>Lib.run_next_any_at wr w.heap.size s pos ty hit cP;rw[kA] at aX;have Hl:=ap hl;have DV:=ap cP;have Ha:=ap ha;have Hv:=ap hv;have dK:=HWf.o a (List.mem_of_getElem? ha);have hcv:IntKind.i64.wrap a=a:=IntWalk.i64_in _ (anq dK.1);obtain⟨gb,off,rfl,dC,hcell⟩:=HR.o.2 (by omega);have G9:w.cell? ⟨gb,off+j,none⟩=some (.int .i64 v):=hcell j _ (by unfold aq;rw[List.getElem?_map,Hv.o];rfl)
   have UJ:gb≠b:=fun e=>by
    obtain⟨es,cl,gS,_⟩:=H.o.own;subst e;simp[World.cell?,gS] at G9
   have hgi:gb≠w.heap.size:=Nat.ne_of_lt dC;have y0:wr.cell? ⟨gb,off+j,none⟩=some (.int .i64 v):=(HB.o.Sh dC UJ _).trans G9;have y1:∀q,(wr.iterAt w.heap.size s q).cell? ⟨gb,off+j,none⟩=some (.int .i64 v):=fun q=>((HB.o.Ck (Nat.le_refl _) s q).Sh dC UJ _).trans G9;clear G9;have hjM:j<M:=by omega
   have QC:=ap hit;have rS:=HWv.o v (List.mem_of_getElem? Hv.o);have jf:∀q,PM (wr.iterAt w.heap.size s q) b (n+j) (l++Nf.rowOf mark (ls.take j) (ws.take j)) D':=fun q=>HP.o.go (Lib.iterAt_other _ _ _ _ _ (Nat.ne_of_lt bO.o));have jf:=ap jf;have Fy:n+j<maxLen:=by unfold maxLen;omega
   clear hl cP ha hv q1 q2 kA hcell hit
   go_wp2_with (at_mapUpdate;refine wpList_mapUpdate_own _ rfl _ _ _ 261 rfl 266 3 oX Tryz.underlying261 _ b (n+j) D' rfl (jf.o _).own Fy _ _ _ (by rfl) (by rfl) (oW dK) _ [] (plainElem_int Tryz.underlying3 rS) ?_;intro w8 aP aG)
   go_roundg (N-(j+1))
   case measure=>have:=Hg.o;omega
   case rel=>
    have hrx:=XU mark ls ws j a v Ha.o Hv.o;refine⟨j+1,_,D'.put (di (a,mark)) (.lit (.int .i64 v)),rfl,by omega,by first|rfl|go_num,Hl.o,?_,?_,?_⟩
    ·rw[hrx,←List.append_assoc];refine PM.next (jf.o 0) dK ?_ aP;rw[Wq _ _ _ (n5.o a (List.mem_of_getElem? Ha.o))];exact Wt a mark _ _ (ah1 HNd.o Ha.o)
    ·exact (aG.block _ (by rw[Lib.iterAt_size];exact (Array.getElem?_eq_some_iff.1 QC.o).1) (fun e=>by have:=bO.o;cases e;omega)).trans (Lib.iterAt_heap _ _ _ _ _ QC.o)
    exact (HB.o.Ck (Nat.le_refl _) _ _).Tz aG
  have oN:j=N:=by omega
  subst oN;rw[List.drop_of_length_le (by rw[HN.o];exact Nat.le_refl _)] at FF
  rcases FF with ⟨_,cP⟩|_
  have aX:∀ty,(Instr.next (.pointer (some ⟨w.heap.size,0,none⟩)) true ty).run Tryz.prog wr=_:=fun ty=>Lib.run_next_end_at wr w.heap.size s pos ty hit cP;have DV:=ap cP;clear hit cP;go_wp2;go_end0;refine⟨D',rfl,?_,HB.o⟩;have hp:=HP.o;rw[List.take_of_length_le (by rw[HN.o];exact Nat.le_refl _),←HN.o,XT] at hp;rwa[HN.o] at hp
end
section
open Go.RowKit Go.WideShapes

structure QM(w:World)(b n:Nat)(l:List ((Int×Int)×Int))(D:DataW Unit):Prop where
 own:w.ownsMap Tryz.prog 3 r7 b n D
 at_:∀r z,D.atKey (.int .i64 r) z=((Nf.fj r l).map nS).getD z
 has:∀r,Maps.has D (.int .i64 r)=(Nf.fj r l).isSome
theorem yL{p:Int×Int}{v:Int}:∀{l:List ((Int×Int)×Int)},Nf.lookW p l=some v→(p,v)∈l
 | [],h=>by cases h
 | x :: l,h=>by
  rw[Nf.lookW] at h
  split at h
  ·rename_i hx;cases h;subst hx;exact List.mem_cons_self ..
  exact List.mem_cons_of_mem _ (yL h)
theorem Wm{p:Int×Int}{v:Int}:∀{l:List ((Int×Int)×Int)},(l.map (·.2)).Nodup→(p,v)∈l→Nf.fj v l=some p
 | x :: l,hn,h=>by
  rw[List.map_cons,List.nodup_cons] at hn;rw[Nf.fj]
  rcases List.mem_cons.1 h with rfl|h
  ·rw[if_pos rfl]
  rw[if_neg (fun e=>hn.1 (by rw[e];exact List.mem_map_of_mem (f:=(·.2)) h))];exact Wm hn.2 h
theorem Gp{p:Int×Int}{v:Int}:∀{l:List ((Int×Int)×Int)},(l.map (·.1)).Nodup→(p,v)∈l→Nf.lookW p l=some v
 | x :: l,hn,h=>by
  rw[List.map_cons,List.nodup_cons] at hn;rw[Nf.lookW]
  rcases List.mem_cons.1 h with rfl|h
  ·rw[if_pos rfl]
  rw[if_neg (fun e=>hn.1 (by rw[e];exact List.mem_map_of_mem (f:=(·.1)) h))];exact Gp hn.2 h
def Done(jd:DataW Unit)(l:List ((Int×Int)×Int))(left:Lit→Bool):Prop :=
 (∀r z,jd.atKey (.int .i64 r) z=match Nf.fj r l with|some x=>if left (di x) then z else nS x|none=>z)∧
 ∀r,Maps.has jd (.int .i64 r)=match Nf.fj r l with|some x=>!left (di x) | none=>false
theorem V9(x:Int×Int):(di x).sameKey (di x)=true:=by
 unfold di;exact WideAt.sameKey_self (by simp[WideAt.IsKeyLit])
theorem Done.next{jd:DataW Unit}{l:List ((Int×Int)×Int)}{left:Lit→Bool}{x:Int×Int}{v:Int}(h:Done jd l left)(hi:Maps.IsMap jd)(hk:(l.map (·.1)).Nodup)(hv:(l.map (·.2)).Nodup)(gT:∀p∈l,cZ p.1)(hx:cZ x)(hm:(x,v)∈l):Done (jd.put (.int .i64 v) (nS x)) l (fun z=>left z && !z.sameKey (di x)):=by
 have hl:=Wm hv hm
 have hne:∀r y,r≠v→Nf.fj r l=some y→di y≠di x:=fun r y e hr h=>by
  have hy:=Nf.yK hr;have:=Cl (gT _ hy) hx h;subst this;have:=(Gp hk hy).symm.trans (Gp hk hm);exact e (Option.some.inj this)
 refine⟨fun r z=>?_,fun r=>?_⟩
 ·by_cases e:r=v
  ·subst e;rw[Maps.atKey_put_same hi (by simp[WideAt.IsKeyLit]),hl];simp[V9]
  rw[Maps.atKey_put_other (fun h=>e (by injection h)),h.1 r z]
  cases hr:Nf.fj r l with
  | none=>rfl
  | some y=>simp[Maps.sameKey_ne (hne r y e hr)]
 by_cases e:r=v
 ·subst e;rw[Maps.has_put_same hi (by simp[WideAt.IsKeyLit]),hl];simp[V9]
 rw[Maps.has_put_other (fun h=>e (by injection h)),h.2 r]
 cases hr:Nf.fj r l with
 | none=>rfl
 | some y=>simp[Maps.sameKey_ne (hne r y e hr)]
theorem Done.start{D:DataW Unit}{l:List ((Int×Int)×Int)}(hk:(l.map (·.1)).Nodup)(gT:∀p∈l,cZ p.1)(hh:∀x,cZ x→Maps.has D (di x)=(Nf.lookW x l).isSome):Done (.map []) l (Maps.has D):=by
 have key:∀r y,Nf.fj r l=some y→Maps.has D (di y)=true:=fun r y hr=>by
  have hy:=Nf.yK hr;rw[hh y (gT _ hy),Gp hk hy];rfl
 refine⟨fun r z=>?_,fun r=>?_⟩
 ·cases hr:Nf.fj r l with
  | none=>rfl
  | some y=>simp[key r y hr];rfl
 cases hr:Nf.fj r l with
 | none=>rfl
 | some y=>simp[key r y hr];rfl
theorem Done.stop{w:World}{b n:Nat}{jd:DataW Unit}{l:List ((Int×Int)×Int)}{left:Lit→Bool}(h:Done jd l left)(h0:∀k,left k=false)(ho:w.ownsMap Tryz.prog 3 r7 b n jd):QM w b n l jd:=by
 refine⟨ho,fun r z=>?_,fun r=>?_⟩
 ·rw[h.1 r z]
  cases hr:Nf.fj r l with
  | none=>rfl
  | some y=>simp[h0]
 rw[h.2 r]
 cases hr:Nf.fj r l with
 | none=>rfl
 | some y=>simp[h0]
theorem aer(b n:Nat)(l:List ((Int×Int)×Int))(D:DataW Unit)(w:World)(h:PM w b n l D)(hk:(l.map (·.1)).Nodup)(hv:(l.map (·.2)).Nodup)(gT:∀p∈l,cZ p.1)(hn:n≤1000000) :
  Calls Tryz.prog 232 #[.map (some b)] w fun e w'=>∃n' D',e=.returned (.map (some w.heap.size))∧QM w' w.heap.size n' l D'∧n'≤1000000∧Below w.heap.size w w':=by
 have gD:=@run_makeMap Tryz.prog;have ao7:Maps.size D≤1000000:=Nat.le_trans h.own.size_le hn;have bh:=h.own.lt;have hown:=h.own;have e1:(w.alloc (.map #[] 0)).heap.size=w.heap.size+1:=by simp
 have HS:=ap (Done.start hk gT h.has);have HH:=ap h;have Hk:=ap hk;have Hv:=ap hv;have vt:=ap gT;clear h hk hv gT
 go_enter Tryz.func232,Tryz.ntmps232
 go_wp2_with (first
  | (at_range;refine wpList_range_own _ rfl _ 261 rfl 266 3 oX Tryz.underlying261 _ b n _ rfl (hown.alloc _) ?_;intro w0 hrg0 hg0 hs0)
  | go_in)
 go_frame
 rw[e1] at hrg0 hs0 ⊢
 go_loopg [5] (Maps.size D) (fun gk _ wr=>∃(left:Lit→Bool) (cnt:Nat) (jd:DataW Unit),gk=cnt∧wr.ranges Tryz.prog 266 (plainElem Tryz.prog 3) b (w.heap.size+1) n D left cnt∧cnt≤Maps.size D∧
   wr.ownsMap Tryz.prog 3 r7 w.heap.size (Maps.size D-cnt) jd∧Maps.IsMap jd∧Done jd l left∧(∀z,left z=true→Maps.has D z=true)∧Below w.heap.size w wr∧w.heap.size+2≤wr.heap.size)
 case atStart=>
  exact⟨_,_,.map [],rfl,hrg0,Nat.le_refl _,((World.ownsMap_made _ _ _ _).kept hg0 (by simp)).mono (Nat.zero_le _),Maps.isMap_empty,HS.o,fun _ h=>h,((Below.refl _ _).alloc (Nat.le_refl _) _).grown hg0 (by simp) (fun j hj=>by cases hj),by omega⟩
 case round=>
  obtain⟨left,cnt,jd,au,hrg,hcs,hout,tR,hA,nH,aX,hsz⟩:=hrel;have Hg:=ap au;have HA:=ap hA;have Aa:=ap nH;have aQ:=ap aX;clear au hA nH aX
  go_wp2_with (first
   | (at_next;go_loud (refine wpList_next_ranges _ rfl _ rfl 266 oX (plainElem Tryz.prog 3) (fun x:Int×Int=>.agg #[.int .i64 x.1,.int .i64 x.2]) (fun z=>.int .i64 z) (fun key kl h=>by obtain⟨x,_,e,_⟩:=V4 h;exact⟨x,e⟩) (fun v y h=>by obtain⟨c,e,_⟩:=plainElem_int_inv Tryz.underlying3 h;exact⟨c,e⟩) b (w.heap.size+1) n _ _ _ rfl hrg ?_ ?_))
   | go_in)
  ·intro hc0 nG;go_wp2;go_ret;exact⟨_,jd,rfl,HA.o.stop nG hout,by omega,aQ.o⟩
  intro x1 x2 c kl y1 y2 w1 cnt1 hkey hlx hy hat hrg1 hlt hg1 hs1 hen;obtain⟨x',hwx,ex,ekl⟩:=V4 hkey;have ex':(x1,x2)=x':=XB ex;subst ex';subst ekl;obtain⟨c',ec,ey,hwc⟩:=plainElem_int_inv Tryz.underlying3 hy;cases ec;cases ey
  have yw:((x1,x2),c)∈l:=by
   have h1:=HH.o.at_ (x1,x2) hwx;rw[hat] at h1;have hh:=HH.o.has (x1,x2) hwx
   cases hl:Nf.lookW (x1,x2) l with
   | none=>
    rw[hl] at hh;have:=Aa.o _ hlx;rw[hh] at this;cases this
   | some v=>
    rw[hl] at h1;injection h1 with h1
    injection h1 with _ h1
    rw[h1];exact yL hl
  have aaX:=ap yw;have Hhw:=ap hwx;have U7:=hout.kept hg1 (by simp);have Jp:=ap U7;have Hrg:=ap hrg1;have Hgr:=ap hg1;have e5:w1.heap.size=wr.heap.size:=hs1;have DK:=ap tR;have Fy:Maps.size D-cnt<maxLen:=by unfold maxLen;omega
  clear ex hkey hlx hy hat hrg hrg1 hout U7 hg1 yw hwx tR hown hrg0 hg0 hs0 gD
  go_wp2_with (first
   | (at_mapUpdate;go_loud (refine wpList_mapUpdate_own _ rfl _ _ _ 262 rfl 3 266 yI Tryz.underlying262 _ w.heap.size (Maps.size D-cnt) jd rfl (Jp.o.alloc _) Fy _ _ _ (by rfl) (by rfl) (Maps.keyOf_int_mk Tryz.underlying3 hwc) _ [] (Nl (x1,x2)) ?_);intro w2 aga cK;go_frame)
   | go_in)
  have e6:(w1.alloc (.cells #[.int .i64 x1,.int .i64 x2] 266)).heap.size=wr.heap.size+1:=by rw[World.size_alloc,e5]
  go_roundg cnt1
  case measure=>have:=Hg.o;omega
  case rel=>
   exact⟨_,cnt1,_,rfl,(Hrg.o.alloc _).kept cK (fun e=>by have:=Option.some.inj e;omega) (fun e=>by have:=Option.some.inj e;omega),by omega,aga.mono (by omega),DK.o.put _ _,HA.o.next DK.o Hk.o Hv.o vt.o Hhw.o aaX.o,
    fun z hz=>Aa.o z (by simp only[Bool.and_eq_true] at hz;exact hz.1),
    ((aQ.o.grown Hgr.o aQ.o.size (fun j hj=>by cases hj;exact Nat.le_succ _)).alloc (by have:=aQ.o.size;omega) _).grown cK (by have:=aQ.o.size;omega) (fun j hj=>by cases hj;exact Nat.le_refl _),by have:=cK.size;omega⟩
end
section
open Go.RowKit Go.WideShapes

namespace Nf
abbrev t2:=rowOf 0x300 uj zr++rowOf 0x301 Cm Ot
abbrev t3:=t2++rowOf 0x302 Cn Ou
abbrev t4:=t3++rowOf 0x303 Co Ov
abbrev t5:=t4++rowOf 0x304 Cp Ow
abbrev t6:=t5++rowOf 0x306 Cq Ox
abbrev t7:=t6++rowOf 0x308 Cr Oy
abbrev t8:=t7++rowOf 0x30A Ct Oz
abbrev t9:=t8++rowOf 0x30C Cu OA
abbrev t10:=t9++rowOf 0x323 Cw OB
abbrev t11:=t10++rowOf 0x327 Cx OC
end Nf
theorem XH(w:World)(ws:List Int):Reads (w.alloc (.cells (aq ws).toArray 3)) (w.alloc (.cells (aq ws).toArray 3)).heap.size 1 (some ⟨w.heap.size,0,none⟩) ws.length (aq ws):=by
 refine⟨by simp[aq],fun _=>⟨w.heap.size,0,rfl,by simp,fun j u hu=>?_⟩⟩;rw[Nat.zero_add,(ae.new w 3 (aq ws).toArray).cell j]
 simpa using hu
theorem pj(b n:Nat)(mark:Int)(s:ByteArray)(ls ws:List Int)(l:List ((Int×Int)×Int))(hs:Runes s 0 ls)(Fs:ls.length≤ws.length)
  (pY:ls.Nodup) (fJ:∀a∈ls,Nf.lookW (a,mark) l=none) (gT:∀a∈ls,cZ (a,mark)) (rS:∀v∈ws,(Lit.int .i64 v).wf=true) (hn:n+ls.length≤1000000) (D:DataW Unit) (W:World) (h:PM W b n l D) :
  Calls Tryz.prog 231 #[.map (some b),.int .i64 mark,.string s,.slice (some ⟨W.heap.size,0,none⟩) ws.length ws.length] (W.alloc (.cells (aq ws).toArray 3)) fun e w'=>∃D',e=.returned (.tuple #[])∧PM w' b (n+ls.length) (l++Nf.rowOf mark ls ws) D'∧ai b W w':=by
 refine (akE b n mark s ls ws _ _ l D _ (h.go (Below.heap_alloc W _ b h.own.lt)) hs (XH W ws) Fs pY fJ gT rS hn).mono ?_;rintro e w' ⟨D',he,hp,hb⟩;exact⟨D',he,hp,((ai.refl b W).alloc _).trans hb⟩
theorem akR:Runes ⟨#[65,69,73,79,85,97,101,105,111,117]⟩ 0 Nf.uj:=by
 unfold Nf.uj
 repeat (refine .cons _ _ _ (by decide) (by decide) ?_)
 exact .nil _ (by decide)
theorem akt(b:Nat)(D:DataW Unit)(W:World)(h:PM W b 0 ([]) D) :
  Calls Tryz.prog 231 #[.map (some b),.int .i64 768,.string ⟨#[65,69,73,79,85,97,101,105,111,117]⟩,.slice (some ⟨W.heap.size,0,none⟩) 10 10] (W.alloc (.cells #[.int .i64 192,.int .i64 200,.int .i64 204,.int .i64 210,.int .i64 217,.int .i64 224,.int .i64 232,.int .i64 236,.int .i64 242,.int .i64 249] 3)) fun e w'=>∃D',e=.returned (.tuple #[])∧PM w' b 10 (Nf.rowOf 0x300 Nf.uj Nf.zr) D'∧ai b W w' :=
 pj b 0 0x300 ⟨#[65,69,73,79,85,97,101,105,111,117]⟩ Nf.uj Nf.zr ([]) akR (by decide) (by decide) (by decide +kernel) (by unfold cZ;decide +kernel) (by decide +kernel) (by decide) D W h
theorem akS:Runes ⟨#[65,69,73,79,85,89,97,101,105,111,117,121,195,170,195,188]⟩ 0 Nf.Cm:=by
 unfold Nf.Cm
 repeat (refine .cons _ _ _ (by decide) (by decide) ?_)
 exact .nil _ (by decide)
theorem aku(b:Nat)(D:DataW Unit)(W:World)(h:PM W b 10 (Nf.rowOf 0x300 Nf.uj Nf.zr) D) :
  Calls Tryz.prog 231 #[.map (some b),.int .i64 769,.string ⟨#[65,69,73,79,85,89,97,101,105,111,117,121,195,170,195,188]⟩,.slice (some ⟨W.heap.size,0,none⟩) 14 14] (W.alloc (.cells #[.int .i64 193,.int .i64 201,.int .i64 205,.int .i64 211,.int .i64 218,.int .i64 221,.int .i64 225,.int .i64 233,.int .i64 237,.int .i64 243,.int .i64 250,.int .i64 253,.int .i64 7871,.int .i64 472] 3)) fun e w'=>∃D',e=.returned (.tuple #[])∧PM w' b 24 (Nf.t2) D'∧ai b W w' :=
 pj b 10 0x301 ⟨#[65,69,73,79,85,89,97,101,105,111,117,121,195,170,195,188]⟩ Nf.Cm Nf.Ot (Nf.rowOf 0x300 Nf.uj Nf.zr) akS (by decide) (by decide) (by decide +kernel) (by unfold cZ;decide +kernel) (by decide +kernel) (by decide) D W h
theorem akT:Runes ⟨#[65,69,73,79,85,97,101,105,111,117,225,186,185]⟩ 0 Nf.Cn:=by
 unfold Nf.Cn
 repeat (refine .cons _ _ _ (by decide) (by decide) ?_)
 exact .nil _ (by decide)
theorem akv(b:Nat)(D:DataW Unit)(W:World)(h:PM W b 24 (Nf.t2) D) :
  Calls Tryz.prog 231 #[.map (some b),.int .i64 770,.string ⟨#[65,69,73,79,85,97,101,105,111,117,225,186,185]⟩,.slice (some ⟨W.heap.size,0,none⟩) 11 11] (W.alloc (.cells #[.int .i64 194,.int .i64 202,.int .i64 206,.int .i64 212,.int .i64 219,.int .i64 226,.int .i64 234,.int .i64 238,.int .i64 244,.int .i64 251,.int .i64 7879] 3)) fun e w'=>∃D',e=.returned (.tuple #[])∧PM w' b 35 (Nf.t3) D'∧ai b W w' :=
 pj b 24 0x302 ⟨#[65,69,73,79,85,97,101,105,111,117,225,186,185]⟩ Nf.Cn Nf.Ou (Nf.t2) akT (by decide) (by decide) (by decide +kernel) (by unfold cZ;decide +kernel) (by decide +kernel) (by decide) D W h
theorem akU:Runes ⟨#[65,78,79,97,110,111]⟩ 0 Nf.Co:=by
 unfold Nf.Co
 repeat (refine .cons _ _ _ (by decide) (by decide) ?_)
 exact .nil _ (by decide)
theorem akw(b:Nat)(D:DataW Unit)(W:World)(h:PM W b 35 (Nf.t3) D) :
  Calls Tryz.prog 231 #[.map (some b),.int .i64 771,.string ⟨#[65,78,79,97,110,111]⟩,.slice (some ⟨W.heap.size,0,none⟩) 6 6] (W.alloc (.cells #[.int .i64 195,.int .i64 209,.int .i64 213,.int .i64 227,.int .i64 241,.int .i64 245] 3)) fun e w'=>∃D',e=.returned (.tuple #[])∧PM w' b 41 (Nf.t4) D'∧ai b W w' :=
 pj b 35 0x303 ⟨#[65,78,79,97,110,111]⟩ Nf.Co Nf.Ov (Nf.t3) akU (by decide) (by decide) (by decide +kernel) (by unfold cZ;decide +kernel) (by decide +kernel) (by decide) D W h
theorem akV:Runes ⟨#[195,188]⟩ 0 Nf.Cp:=by
 unfold Nf.Cp
 repeat (refine .cons _ _ _ (by decide) (by decide) ?_)
 exact .nil _ (by decide)
theorem akx(b:Nat)(D:DataW Unit)(W:World)(h:PM W b 41 (Nf.t4) D) :
  Calls Tryz.prog 231 #[.map (some b),.int .i64 772,.string ⟨#[195,188]⟩,.slice (some ⟨W.heap.size,0,none⟩) 1 1] (W.alloc (.cells #[.int .i64 470] 3)) fun e w'=>∃D',e=.returned (.tuple #[])∧PM w' b 42 (Nf.t5) D'∧ai b W w' :=
 pj b 41 0x304 ⟨#[195,188]⟩ Nf.Cp Nf.Ow (Nf.t4) akV (by decide) (by decide) (by decide +kernel) (by unfold cZ;decide +kernel) (by decide +kernel) (by decide) D W h
theorem akW:Runes ⟨#[208,152,208,184]⟩ 0 Nf.Cq:=by
 unfold Nf.Cq
 repeat (refine .cons _ _ _ (by decide) (by decide) ?_)
 exact .nil _ (by decide)
theorem aky(b:Nat)(D:DataW Unit)(W:World)(h:PM W b 42 (Nf.t5) D) :
  Calls Tryz.prog 231 #[.map (some b),.int .i64 774,.string ⟨#[208,152,208,184]⟩,.slice (some ⟨W.heap.size,0,none⟩) 2 2] (W.alloc (.cells #[.int .i64 1049,.int .i64 1081] 3)) fun e w'=>∃D',e=.returned (.tuple #[])∧PM w' b 44 (Nf.t6) D'∧ai b W w' :=
 pj b 42 0x306 ⟨#[208,152,208,184]⟩ Nf.Cq Nf.Ox (Nf.t5) akW (by decide) (by decide) (by decide +kernel) (by unfold cZ;decide +kernel) (by decide +kernel) (by decide) D W h
theorem akX:Runes ⟨#[65,69,73,79,85,97,101,105,111,117,121,208,149,208,181]⟩ 0 Nf.Cr:=by
 unfold Nf.Cr
 repeat (refine .cons _ _ _ (by decide) (by decide) ?_)
 exact .nil _ (by decide)
theorem akz(b:Nat)(D:DataW Unit)(W:World)(h:PM W b 44 (Nf.t6) D) :
  Calls Tryz.prog 231 #[.map (some b),.int .i64 776,.string ⟨#[65,69,73,79,85,97,101,105,111,117,121,208,149,208,181]⟩,.slice (some ⟨W.heap.size,0,none⟩) 13 13] (W.alloc (.cells #[.int .i64 196,.int .i64 203,.int .i64 207,.int .i64 214,.int .i64 220,.int .i64 228,.int .i64 235,.int .i64 239,.int .i64 246,.int .i64 252,.int .i64 255,.int .i64 1025,.int .i64 1105] 3)) fun e w'=>∃D',e=.returned (.tuple #[])∧PM w' b 57 (Nf.t7) D'∧ai b W w' :=
 pj b 44 0x308 ⟨#[65,69,73,79,85,97,101,105,111,117,121,208,149,208,181]⟩ Nf.Cr Nf.Oy (Nf.t6) akX (by decide) (by decide) (by decide +kernel) (by unfold cZ;decide +kernel) (by decide +kernel) (by decide) D W h
theorem akY:Runes ⟨#[65,97]⟩ 0 Nf.Ct:=by
 unfold Nf.Ct
 repeat (refine .cons _ _ _ (by decide) (by decide) ?_)
 exact .nil _ (by decide)
theorem akA(b:Nat)(D:DataW Unit)(W:World)(h:PM W b 57 (Nf.t7) D) :
  Calls Tryz.prog 231 #[.map (some b),.int .i64 778,.string ⟨#[65,97]⟩,.slice (some ⟨W.heap.size,0,none⟩) 2 2] (W.alloc (.cells #[.int .i64 197,.int .i64 229] 3)) fun e w'=>∃D',e=.returned (.tuple #[])∧PM w' b 59 (Nf.t8) D'∧ai b W w' :=
 pj b 57 0x30A ⟨#[65,97]⟩ Nf.Ct Nf.Oz (Nf.t7) akY (by decide) (by decide) (by decide +kernel) (by unfold cZ;decide +kernel) (by decide +kernel) (by decide) D W h
theorem akZ:Runes ⟨#[67,83,90,99,115,122]⟩ 0 Nf.Cu:=by
 unfold Nf.Cu
 repeat (refine .cons _ _ _ (by decide) (by decide) ?_)
 exact .nil _ (by decide)
theorem akB(b:Nat)(D:DataW Unit)(W:World)(h:PM W b 59 (Nf.t8) D) :
  Calls Tryz.prog 231 #[.map (some b),.int .i64 780,.string ⟨#[67,83,90,99,115,122]⟩,.slice (some ⟨W.heap.size,0,none⟩) 6 6] (W.alloc (.cells #[.int .i64 268,.int .i64 352,.int .i64 381,.int .i64 269,.int .i64 353,.int .i64 382] 3)) fun e w'=>∃D',e=.returned (.tuple #[])∧PM w' b 65 (Nf.t9) D'∧ai b W w' :=
 pj b 59 0x30C ⟨#[67,83,90,99,115,122]⟩ Nf.Cu Nf.OA (Nf.t8) akZ (by decide) (by decide) (by decide +kernel) (by unfold cZ;decide +kernel) (by decide +kernel) (by decide) D W h
theorem ak0:Runes ⟨#[101]⟩ 0 Nf.Cw:=by
 unfold Nf.Cw
 repeat (refine .cons _ _ _ (by decide) (by decide) ?_)
 exact .nil _ (by decide)
theorem akC(b:Nat)(D:DataW Unit)(W:World)(h:PM W b 65 (Nf.t9) D) :
  Calls Tryz.prog 231 #[.map (some b),.int .i64 803,.string ⟨#[101]⟩,.slice (some ⟨W.heap.size,0,none⟩) 1 1] (W.alloc (.cells #[.int .i64 7865] 3)) fun e w'=>∃D',e=.returned (.tuple #[])∧PM w' b 66 (Nf.t10) D'∧ai b W w' :=
 pj b 65 0x323 ⟨#[101]⟩ Nf.Cw Nf.OB (Nf.t9) ak0 (by decide) (by decide) (by decide +kernel) (by unfold cZ;decide +kernel) (by decide +kernel) (by decide) D W h
theorem ak1:Runes ⟨#[67,99]⟩ 0 Nf.Cx:=by
 unfold Nf.Cx
 repeat (refine .cons _ _ _ (by decide) (by decide) ?_)
 exact .nil _ (by decide)
theorem akD(b:Nat)(D:DataW Unit)(W:World)(h:PM W b 66 (Nf.t10) D) :
  Calls Tryz.prog 231 #[.map (some b),.int .i64 807,.string ⟨#[67,99]⟩,.slice (some ⟨W.heap.size,0,none⟩) 2 2] (W.alloc (.cells #[.int .i64 199,.int .i64 231] 3)) fun e w'=>∃D',e=.returned (.tuple #[])∧PM w' b 68 (Nf.t11) D'∧ai b W w' :=
 pj b 66 0x327 ⟨#[67,99]⟩ Nf.Cx Nf.OC (Nf.t10) ak1 (by decide) (by decide) (by decide +kernel) (by unfold cZ;decide +kernel) (by decide +kernel) (by decide) D W h

theorem amw{a:Act}{W:World}{N:Nat}{v0 v1:Value}{Q:Ending→World→Prop}(ha:a.tmps.getD 0 undef=.pointer (some ⟨N,0,none⟩))(hd:a.defers=[])(hK:ae W N 264 #[v0,v1])(hQ:Q (.returned (.agg #[v0,v1])) W):bodyPost Tryz.prog Tryz.f215 Q Exit.ret a W :=
 bodyPost_ret (results_cell_row (fn:=Tryz.f215) rfl a.tmps W N 264 #[v0,v1] (0,0) _ ha hK Tryz.underlying264 rfl (by kernel_rfl)) hd hQ
theorem amy:∀p∈Nf.table,cZ p.1:=by unfold cZ;decide +kernel
theorem YI(w:World) :
  Calls Tryz.prog 215 #[] w fun e w'=>∃m q n n' D D',e=.returned (.agg #[.map (some m),.map (some q)])∧PM w' m n Nf.table D∧QM w' q n' Nf.table D'∧Below w.heap.size w w':=by
 have gD:=@run_makeMap Tryz.prog;obtain⟨W0,jo⟩:∃W0,(w.alloc (.cells #[.map none,.map none] 264)).alloc (.map #[] 0)=W0:=⟨_,rfl⟩
 have P0:=ap (show PM W0 (w.heap.size+1) 0 [] (.map []) by
  have:=PM.nil (w.alloc (.cells #[.map none,.map none] 264));rw[World.size_alloc,jo] at this;exact this)
 have B0:=ap (ai.refl (w.heap.size+1) W0);have S0:=ap (show W0.heap.size=w.heap.size+2 by rw[←jo];simp)
 go_enter Tryz.func215,Tryz.ntmps215
 go_wp2_with fail
 refine (akt (w.heap.size+1) _ W0 P0.o).mono ?_;rintro e w1 ⟨D1,rfl,hp,hb⟩;have P1:=ap hp;have B1:=ap (B0.o.trans hb);clear hp hb
 go_wp2_with fail
 refine (aku (w.heap.size+1) _ w1 P1.o).mono ?_;rintro e w2 ⟨D2,rfl,hp,hb⟩;have P2:=ap hp;have B2:=ap (B1.o.trans hb);clear hp hb
 go_wp2_with fail
 refine (akv (w.heap.size+1) _ w2 P2.o).mono ?_;rintro e w3 ⟨D3,rfl,hp,hb⟩;have P3:=ap hp;have B3:=ap (B2.o.trans hb);clear hp hb
 go_wp2_with fail
 refine (akw (w.heap.size+1) _ w3 P3.o).mono ?_;rintro e w4 ⟨D4,rfl,hp,hb⟩;have P4:=ap hp;have B4:=ap (B3.o.trans hb);clear hp hb
 go_wp2_with fail
 refine (akx (w.heap.size+1) _ w4 P4.o).mono ?_;rintro e w5 ⟨D5,rfl,hp,hb⟩;have P5:=ap hp;have B5:=ap (B4.o.trans hb);clear hp hb
 go_wp2_with fail
 refine (aky (w.heap.size+1) _ w5 P5.o).mono ?_;rintro e w6 ⟨D6,rfl,hp,hb⟩;have P6:=ap hp;have B6:=ap (B5.o.trans hb);clear hp hb
 go_wp2_with fail
 refine (akz (w.heap.size+1) _ w6 P6.o).mono ?_;rintro e w7 ⟨D7,rfl,hp,hb⟩;have P7:=ap hp;have B7:=ap (B6.o.trans hb);clear hp hb
 go_wp2_with fail
 refine (akA (w.heap.size+1) _ w7 P7.o).mono ?_;rintro e w8 ⟨D8,rfl,hp,hb⟩;have P8:=ap hp;have B8:=ap (B7.o.trans hb);clear hp hb
 go_wp2_with fail
 refine (akB (w.heap.size+1) _ w8 P8.o).mono ?_;rintro e w9 ⟨D9,rfl,hp,hb⟩;have P9:=ap hp;have B9:=ap (B8.o.trans hb);clear hp hb
 go_wp2_with fail
 refine (akC (w.heap.size+1) _ w9 P9.o).mono ?_;rintro e jc ⟨D10,rfl,hp,hb⟩;have P10:=ap hp;have Zx:=ap (B9.o.trans hb);clear hp hb
 go_wp2_with fail
 refine (akD (w.heap.size+1) _ jc P10.o).mono ?_;rintro e uz ⟨D11,rfl,hp,hb⟩;have Ar:=ap hp;have xh:=ap (Zx.o.trans hb);clear hp hb
 go_wp2_with fail
 refine (aer (w.heap.size+1) _ Nf.table _ uz Ar.o Nf.amt Nf.amx amy (by decide)).mono ?_;rintro e G6 ⟨n',D',rfl,hq,hn',hb⟩;have HQ:=ap hq;have HP:=ap (Ar.o.go (hb.block _ Ar.o.own.lt));have bw:=xh.o.go hb;have ck:ae G6 w.heap.size 264 #[.map none,.map none]:=bw.blk (by rw[←jo];exact (ae.new w _ _).alloc _) (by omega);have c0:=ck.cell 0;have c1:=ck.cell 1;have f0:=ck.frozen 0;have f1:=ck.frozen 1
 have HB:=ap (show Below w.heap.size w G6 from by
  have h0:Below w.heap.size w W0:=by rw[←jo];exact (ay w _).trans ((ay _ _).mono (by simp))
  exact h0.trans (bw.below (by omega) h0.size))
 have HK:=ap ck;have hqb:=hq.own.lt;clear hq hb bw ck;go_wp2;have h2:=((HK.o.aH 0 (.map (some (w.heap.size+1)))).aH 1 (.map (some uz.heap.size)));refine amw rfl rfl h2 ?_;have apv:w.heap.size+2≤uz.heap.size:=by rw[←S0.o];exact xh.o.size
 exact⟨w.heap.size+1,uz.heap.size,_,n',_,D',rfl,HP.o.go (by rw[Below.heap_setCell _ _ _ _ (by simp),Below.heap_setCell _ _ _ _ (by simp)]),⟨MU HQ.o.own (by rw[Below.heap_setCell _ _ _ _ (by show uz.heap.size≠w.heap.size;omega),Below.heap_setCell _ _ _ _ (by show uz.heap.size≠w.heap.size;omega)]),HQ.o.at_,HQ.o.has⟩,(HB.o.setCell (Nat.le_refl _) _).setCell (Nat.le_refl _) _⟩
end
end Go.Proofs.YtpdkeckeekchlaaGreatDoor
