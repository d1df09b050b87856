/- opml.elements: its value; opml.first: the first attribute of some that, as a line, is not empty. And more. -/
import Derived.Test.YtifiiojchlaghaaGreatDoorOk06
import Derived.Test.YtifiiojchlaghaaGreatDoorOk07
import Derived.Test.YtifiiojchlaghaaGreatDoorOk08
import Derived.Test.YtifiiojchlaghaaGreatDoorOk09
import Derived.Test.YtifiiojchlaghaaGreatDoorOk17
import Derived.Test.YtifiiojchlaghaaGreatDoorOk20
import Derived.Test.YtifiiojchlaghaaGreatDoorOk26
import Derived.Test.YtifiiojchlaghaaGreatDoorOk28
import Derived.Test.YtifiiojchlaghaaGreatDoorShelf
import Derived.Maps.AppendAt
import Derived.Lib.AppendStr
set_option linter.unusedSimpArgs false
set_option maxRecDepth 100000
set_option maxHeartbeats 8000000
set_option linter.unusedVariables false
namespace Go.Proofs.YtifiiojchlaghaaGreatDoor
section
open Go.RowKit Go.Shelf Tk Sx Go.WideShapes

namespace Opm
def fstOf(as_:List Att):List L→L
 | []=>[]
 | n :: r=>if Tx.line ((Evs.attrOf ⟨[],n⟩ as_).getD [])=[] then fstOf as_ r else Tx.line ((Evs.attrOf ⟨[],n⟩ as_).getD [])
end Opm
theorem attrV_is(o:Option L):attrV o=.tuple #[.string (bstr (o.getD [])),.bool o.isSome]:=by cases o<;>rfl
def ostVs(l:List L):List Value:=l.map fun x=>Value.string (bstr x)
theorem olines_any(s:L)(w:World)(hcr:(13:UInt8)∉s):Calls Tryz.prog 21 #[.string (bstr s)] w fun e w'=>e=.returned (.string (bstr s))∧w'=w:=by
 have HI:=hide (show Calls Tryz.prog 39 #[.string (bstr s),.int .u8 13] w fun e w'=>e=.returned (.int .i64 (-1))∧w'=w from by
  have h:=Tryz.strings_IndexByte (bstr s) 13 w;rw[bstr_list] at h
  have h1:Lib.indexByte s 13 = -1:=by
   have h2:=Lib.indexByte_ge s 13
   rcases Int.lt_or_le (Lib.indexByte s 13) 0 with h3|h3
   ·omega
   exfalso
   obtain⟨m,hm⟩:∃m:Nat,Lib.indexByte s 13=m:=⟨(Lib.indexByte s 13).toNat,by omega⟩;exact hcr (List.mem_of_getElem? (indexByte_yes hm).2)
  rw[←h1];exact h)
 go_enter Tryz.func21,Tryz.ntmps21
 go_wp2_with fail
 refine cq HI.out ?_;dsimp only;go_wp2;go_ret;exact⟨rfl,rfl⟩
theorem elements_mk(A:Option Addr)(n c i:Nat)(nm:Nm)(w:World):Calls Tryz.prog 24 #[.slice A n c,.int .i64 (i:Int),.agg #[.string (bstr nm.ns),.string (bstr nm.loc)]] w fun e w'=>
  e=.returned (.func (.func 43) #[] #[.pointer (some ⟨w.heap.size,0,none⟩),.pointer (some ⟨w.heap.size+1,0,none⟩),.pointer (some ⟨w.heap.size+2,0,none⟩)])∧w'=((w.alloc (.cells #[.slice A n c] 50)).alloc (.cells #[.int .i64 (i:Int)] 3)).alloc (.cells #[.string (bstr nm.ns),.string (bstr nm.loc)] 57):=by
 go_enter Tryz.func24,Tryz.ntmps24
 go_wp2;go_ret;exact⟨rfl,rfl⟩
theorem elems_blks(A:Option Addr)(n c i:Nat)(nm:Nm)(w w':World)(h:w'=((w.alloc (.cells #[.slice A n c] 50)).alloc (.cells #[.int .i64 (i:Int)] 3)).alloc (.cells #[.string (bstr nm.ns),.string (bstr nm.loc)] 57)) :
  Blk w' w.heap.size 50 #[.slice A n c]∧Blk w' (w.heap.size+1) 3 #[.int .i64 (i:Int)]∧Blk w' (w.heap.size+2) 57 #[.string (bstr nm.ns),.string (bstr nm.loc)]∧Below w.heap.size w w':=by
 subst h;have h1:=Blk.new (w.alloc (.cells #[.slice A n c] 50)) 3 #[.int .i64 (i:Int)];have h2:=Blk.new ((w.alloc (.cells #[.slice A n c] 50)).alloc (.cells #[.int .i64 (i:Int)] 3)) 57 #[.string (bstr nm.ns),.string (bstr nm.loc)];rw[World.size_alloc] at h1;rw[World.size_alloc,World.size_alloc] at h2;exact⟨((Blk.new w _ _).alloc _).alloc _,h1.alloc _,h2,((below_alloc w _).alloc (by simp) _).alloc (by simp;omega) _⟩
theorem elems_stops(n:Nat)(hn:1≤n)(Lb Ab Nb i B:Nat)(A:Option Addr)(c N:Nat)(xs:List Ew)(x:Ew)(nm:Nm)(hN:xs.length=N)(w:World)
  (hE:EvW w B A c xs) (hx:xs[i]?=some x) (hk:x.e.kind=0)
  (hLb:Blk w Lb 50 #[.slice A N c]) (hAb:Blk w Ab 3 #[.int .i64 (i:Int)]) (hNb:Blk w Nb 57 #[.string (bstr nm.ns),.string (bstr nm.loc)]) :
  SeqStopsK Fence.wide n Tryz.prog 43 #[.pointer (some ⟨Lb,0,none⟩),.pointer (some ⟨Ab,0,none⟩),.pointer (some ⟨Nb,0,none⟩)] (fun x:Ke N (xs.map (·.e)) nm=>#[Value.int .i64 (x.1:Int)]) (KpO B [Lb,Ab,Nb]) (fun ys=>ys.map (·.1)=Opm.elemsOf (xs.map (·.e)) nm i)
   (fun pre=>∃rest,pre.map (·.1)++rest=Opm.elemsOf (xs.map (·.e)) nm i) N w:=fun l J Jx W hW hJ _ hY h0=>
 elems1_in n hn l Lb Ab Nb i B A c N xs x nm hN J Jx W hJ hY (hE.go hW) hx hk (hLb.go hW) (hAb.go hW) (hNb.go hW) h0
theorem ofirst_any(xs:List Ew)(A:Option Addr)(c B i R:Nat)(x:Ew)(ns:List L)(w:World)(h:EvW w B A c xs)(hx:xs[i]?=some x)(hk:x.e.kind=0)(hv:∀a∈x.e.attrs,a.val.length≤100000)
  (hR:Blk w R 9 (ostVs ns).toArray) (hn:ns.length≤1000) :
  Calls Tryz.prog 25 #[.slice A xs.length c,.int .i64 (i:Int),.slice (some ⟨R,0,none⟩) ns.length ns.length] w fun e w'=>e=.returned (.string (bstr (Opm.fstOf x.e.attrs ns)))∧Below w.heap.size w w':=by
 have HN:=hide (fun l W=>oname_any l W);have HA:=hide (fun (l:L) (W:World) (hb:Below w.heap.size w W)=>Attr_any xs A c B i x ⟨[],l⟩ W (h.go hb) hx hk);have HL:=hide (fun (l:L) (W:World) (hs:l.length≤200000)=>line_any l W hs)
 have HV:=hide (show ∀n:L,((Evs.attrOf ⟨[],n⟩ x.e.attrs).getD []).length≤200000 from fun n=>by
  unfold Evs.attrOf
  cases hi:Evs.idxNm ⟨[],n⟩ x.e.attrs with
  | none=>exact Nat.zero_le _
  | some k=>
   obtain⟨a,ha,-⟩:=Evs.idxNm_at hi;show (((x.e.attrs[k]?).map (·.val)).getD []).length≤200000;rw[ha];exact Nat.le_trans (hv a (List.mem_of_getElem? ha)) (by omega))
 have HR:=hide hR;obtain⟨as_,has⟩:∃as_,x.e.attrs=as_:=⟨_,rfl⟩;rw[has] at HA HV ⊢;obtain⟨N,hN⟩:∃N,xs.length=N:=⟨_,rfl⟩;rw[hN] at HA ⊢;obtain⟨m,hm⟩:∃m,ns.length=m:=⟨_,rfl⟩;have Hm:=hide hm;rw[hm] at hn ⊢;simp only[attrV_is] at HA;clear h hx hk hv hR has hN hm
 go_enter Tryz.func25,Tryz.ntmps25
 go_wp2
 go_loopg [6,8,9,10,13,14,15,16,17,18,19,20,21,22,23,24,25,26,27,28,29,30] m (fun gk v6 v8 v9 v10 v13 v14 v15 v16 v17 v18 v19 v20 v21 v22 v23 v24 v25 v26 v27 v28 v29 v30 wr=>∃j:Nat,v13=.int .i64 (j:Int)∧gk=m-j∧j≤m∧Opm.fstOf as_ ns=Opm.fstOf as_ (ns.drop j)∧Below w.heap.size w wr)
 case atStart=>exact⟨0,rfl,rfl,by omega,rfl,Below.refl _ _⟩
 case round=>
  obtain⟨j,rfl,hgk,hj,hst,hb⟩:=hrel;have Hst:=hide hst;have HB:=hide hb;have Hgk:=hide hgk;have HRr:=HR.out.go hb;clear hst hb hgk
  by_cases hlt:j<m
  ·obtain⟨t,ht⟩:∃t,ns[j]?=some t:=⟨_,List.getElem?_eq_getElem (by rw[Hm.out];exact hlt)⟩
   have hc:wr.cell? ⟨R,j,none⟩=some (.string (bstr t)):=by
    rw[HRr.cell j];simp[ostVs,ht]
   have hd:ns.drop j=t :: ns.drop (j+1):=by
    obtain⟨h1,h2⟩:=List.getElem?_eq_some_iff.1 ht;rw[List.drop_eq_getElem_cons h1,h2]
   have hstep:Opm.fstOf as_ (ns.drop j)=if Tx.line ((Evs.attrOf ⟨[],t⟩ as_).getD [])=[] then Opm.fstOf as_ (ns.drop (j+1)) else Tx.line ((Evs.attrOf ⟨[],t⟩ as_).getD []):=by rw[hd,Opm.fstOf]
   have Hs:=hide hstep;have hj2:(0:Int)≤j∧(j:Int)<m:=by omega
   obtain⟨v,hv⟩:∃v,(Evs.attrOf ⟨[],t⟩ as_).getD []=v:=⟨_,rfl⟩;obtain⟨q,hq⟩:∃q,(Evs.attrOf ⟨[],t⟩ as_).isSome=q:=⟨_,rfl⟩;have hlv:=HV.out t;have HAt:=hide (HA.out t);rw[hv] at Hs hlv HAt;rw[hq] at HAt;have HLv:=hide hlv;clear hstep hd ht hlv HRr hv hq
   go_wp2_with fail
   refine (HN.out t wr).mono ?_;rintro e w1 ⟨rfl,hb1⟩;have HB1:=hide (HB.out.trans (hb1.mono HB.out.size));clear hb1;dsimp only
   go_wp2_with fail
   refine (HAt.out w1 HB1.out).mono ?_;rintro e w2 ⟨rfl,hb2⟩;have HB2:=hide (HB1.out.trans (hb2.mono HB1.out.size));clear hb2;dsimp only
   go_wp2_with fail
   refine (HL.out v w2 HLv.out).mono ?_;rintro e w3 ⟨rfl,hb3⟩;have HB3:=hide (HB2.out.trans (hb3.mono HB2.out.size));clear hb3;dsimp only;obtain⟨y,hy⟩:∃y,Tx.line v=y:=⟨_,rfl⟩;rw[hy] at Hs ⊢;clear hy
   cases y with
   | nil=>
    have e1:=emp_is [];go_wp2
    go_roundg (m-(j+1))
    case measure=>have:=Hgk.out;omega
    case rel=>exact⟨j+1,by first|rfl|go_num,rfl,by omega,by rw[Hst.out,Hs.out];simp,HB3.out⟩
   | cons a y=>
    have e1:=emp_no (t:=a :: y) (by simp);go_wp2;go_ret;refine⟨?_,HB3.out⟩;rw[Hst.out,Hs.out];simp
  have hje:j=m:=by omega
  have Hz:=hide (show Opm.fstOf as_ (ns.drop j)=[] by rw[hje,←Hm.out,List.drop_length];rfl);have hlt2:¬(j:Int)<m:=by omega
  clear hje;go_wp2;go_ret;refine⟨?_,HB.out⟩;rw[Hst.out,Hz.out];rfl
end
section
open Tk Sx
def smlTB(D:L):Bool:=Utf.valid D&&(List.range D.length).all fun p=>plnAt (D.drop p)&&match Tk.one p (D.drop p) with
 | none=>true
 | some t=>decide (p<t.end_)&&decide (t.end_≤D.length)
theorem smlT_of{D:L}(h:smlTB D=true):SmlT D:=by
 unfold smlTB at h;simp only[Bool.and_eq_true,List.all_eq_true,List.mem_range] at h;refine⟨h.1,fun p hp=>(h.2 p hp).1,fun p hp t ht=>?_⟩;have h:=(h.2 p hp).2;rw[ht] at h
 simpa using h
def tokSB(t:Tok):Bool:=decide (t.name.length≤100000∧t.text.length≤100000∧t.attrs.length≤100000∧(∀a∈t.attrs,a.name.length≤100000∧a.value.length≤100000)∧(t.kind=0∨t.kind=1∨t.kind=2∨t.kind=3∨t.kind=4))
def okSB(st:St):Bool:=decide ((st.open_.length≤16∧st.scope.length≤90000000∧st.evs.length≤90000000∧(∀y∈st.evs,y.text.length≤100000000000000000)∧(∀x∈st.open_,x.scope≤st.scope.length)∧st.open_.Pairwise fun a b=>a.scope≤b.scope)∧∀d∈st.scope,d.ns.length≤1000000)
def smlSB(D:L):Bool:=(toks D.length 0 D).all tokSB&&(List.range ((toks D.length 0 D).length+1)).all fun k=>match run st0 ((toks D.length 0 D).take k) with
 | .ok st=>okSB st
 | .error _=>true
theorem smlS_of{D:L}(h:smlSB D=true):SmlS D:=by
 unfold smlSB at h;simp only[Bool.and_eq_true,List.all_eq_true,List.mem_range] at h;refine⟨fun t ht=>?_,fun k st hk=>?_⟩
 ·obtain⟨h1,h2,h3,h4,h5⟩:=of_decide_eq_true (h.1 t ht);exact⟨h1,h2,h3,h4,h5⟩
 have h2:=h.2 (min k (toks D.length 0 D).length) (by omega);rw[←List.take_eq_take_min,hk] at h2;obtain⟨⟨h1,h2,h3,h4,h5,h6⟩,h7⟩:=of_decide_eq_true h2;exact⟨⟨h1,h2,h3,h4,h5,h6⟩,h7⟩
def balB(l:List Ev):Bool:=(List.range l.length).all fun k=>match l[k]? with
 | none=>true
 | some e=>decide ((e.kind=0∧(opn [] (l.take k)=[]→k=0)∧(opn [] (l.take k)).length<16∧e.attrs.length≤16∧e.name.loc≠[])∨(e.kind=1∧(opn [] (l.take k)).getLast?=some e.name))
theorem bal_of{l:List Ev}(h:balB l=true):Bal l:=by
 unfold balB at h;simp only[List.all_eq_true,List.mem_range] at h;intro k e he;have h:=h k (List.getElem?_eq_some_iff.1 he).1;rw[he] at h
 rcases of_decide_eq_true h with h|h
 ·exact .inl h
 exact .inr (.inl h)
namespace Opm
def t1:L:=[60,111,112,109,108,62,60,98,111,100,121,62,60,111,117,116,108,105,110,101,32,116,101,120,116,61,34,97,34,62,60,111,117,116,108,105,110,101,32,116,105,116,108,101,61,34,98,34,32,120,109,108,85,114,108,61,34,32,117,32,34,47,62,60,47,111,117,116,108,105,110,101,62,60,47,98,111,100,121,62,60,47,111,112,109,108,62]
def t2:L:=[60,111,112,109,108,47,62]
def nOpml:Nm:=⟨[],[111,112,109,108]⟩
def nBody:Nm:=⟨[],[98,111,100,121]⟩
def nOutline:Nm:=⟨[],[111,117,116,108,105,110,101]⟩
def nUrl:Nm:=⟨[],[120,109,108,85,114,108]⟩
def nTitle:Nm:=⟨[],[116,105,116,108,101]⟩
def nText:Nm:=⟨[],[116,101,120,116]⟩
def evs1:List Ev:=[⟨0,nOpml,[],[]⟩,⟨0,nBody,[],[]⟩,⟨0,nOutline,[⟨nText,[97]⟩],[]⟩,⟨0,nOutline,[⟨nTitle,[98]⟩,⟨nUrl,[32,117,32]⟩],[]⟩,⟨1,nOutline,[],[]⟩,⟨1,nOutline,[],[]⟩,⟨1,nBody,[],[]⟩,⟨1,nOpml,[],[]⟩]
def evs2:List Ev:=[⟨0,nOpml,[],[]⟩,⟨1,nOpml,[],[]⟩]
def okIs(r:Except (Nat×Nat) (List Ev))(l:List Ev):Bool:=match r with
 | .ok l'=>decide (l'=l)
 | .error _=>false
theorem okIs_eq{r:Except (Nat×Nat) (List Ev)}{l:List Ev}(h:okIs r l=true):r=.ok l:=by
 unfold okIs at h
 split at h
 ·rw[of_decide_eq_true h]
 cases h
theorem parse1:Sx.parse t1=.ok evs1:=okIs_eq (by kernel_rfl)
theorem parse2:Sx.parse t2=.ok evs2:=okIs_eq (by kernel_rfl)
instance(e:Ev):Decidable (Evs.Fld e):=by unfold Evs.Fld;infer_instance
theorem whl1:Evs.Whl evs1:=⟨by decide +kernel,bal_of (by kernel_rfl),of_decide_eq_true (by kernel_rfl),by simp[evs1]⟩
theorem whl2:Evs.Whl evs2:=⟨by decide +kernel,bal_of (by kernel_rfl),of_decide_eq_true (by kernel_rfl),by simp[evs2]⟩
theorem smlT1:SmlT t1:=smlT_of (by kernel_rfl)
theorem smlT2:SmlT t2:=smlT_of (by kernel_rfl)
theorem smlS1:SmlS t1:=smlS_of (by kernel_rfl)
theorem smlS2:SmlS t2:=smlS_of (by kernel_rfl)
theorem fine1:fine t1=true:=by kernel_rfl
theorem fine2:fine t2=true:=by kernel_rfl
end Opm
end
section
open Go.RowKit Go.Shelf Tk Sx Go.WideShapes

namespace Evs
theorem whl_first{l:List Ev}(h:Whl l):∃e,l[0]?=some e∧e.kind=0:=by
 have hl:0<l.length:=List.length_pos_iff.2 h.ne;obtain⟨e,he⟩:∃e,l[0]?=some e:=⟨_,List.getElem?_eq_getElem hl⟩;refine⟨e,he,?_⟩
 rcases (whl_at h he).2 with h1|⟨-,o,p,h2,-⟩|⟨-,h2,-⟩
 ·exact h1.1
 ·simp[upto] at h2
 exact absurd rfl h2
theorem upto_starts{l:List Ev}(h:Whl l):∀i,i≤l.length→(∀p∈(upto l i).1,∃e,l[p]?=some e∧e.kind=0)∧∀p k,lookE p (upto l i).2=some k→∃e,l[p]?=some e∧e.kind=0
 | 0,_=>⟨fun p hp=>by simp[upto] at hp,fun p k hp=>by cases hp⟩
 | i+1,hi=>by
  obtain⟨h1,h2⟩:=upto_starts h i (by omega);obtain⟨e,he⟩:∃e,l[i]?=some e:=⟨_,List.getElem?_eq_getElem (by omega)⟩;rw[upto_next he];unfold stp
  rcases (whl_at h he).2 with ⟨h0,-⟩|⟨h0,o,p,hop,-⟩|⟨h0,-⟩
  ·rw[if_pos h0];refine⟨fun q hq=>?_,h2⟩
   rcases List.mem_append.1 hq with hq|hq
   ·exact h1 q hq
   rw[List.mem_singleton] at hq;subst hq;exact⟨e,he,h0⟩
  ·rw[if_neg (by omega),if_pos h0];refine⟨fun q hq=>h1 q (List.dropLast_subset _ hq),fun q k hq=>?_⟩;unfold lookE at hq
   split at hq
   ·rename_i hqe
    dsimp only at hqe;refine h1 q ?_;rw[←hqe,hop];simp
   exact h2 q k hq
  rw[if_neg (by omega),if_neg (by omega)];exact⟨h1,h2⟩
theorem kidsN_mem{m:List (Nat×Nat)}{en b:Nat}:∀f k,b∈kidsN m en f k→∃e,lookE b m=some e
 | 0,k,h=>by cases h
 | f+1,k,h=>by
  rw[kidsN] at h
  split at h
  ·cases hl:lookE k m with
   | none=>rw[hl] at h;exact kidsN_mem f _ h
   | some e=>
    rw[hl] at h
    rcases List.mem_cons.1 h with h|h
    ·subst h;exact⟨e,hl⟩
    exact kidsN_mem f _ h
  cases h
theorem first_start{l:List Ev}(h:Whl l){n:Nm}{i b:Nat}(hb:firstIn l n (kidsOf l i)=some b):∃e,l[b]?=some e∧e.kind=0:=by
 obtain⟨e,he⟩:=kidsN_mem _ _ (List.mem_of_find?_eq_some hb);exact (upto_starts h l.length (Nat.le_refl _)).2 b e he
end Evs
namespace Opm
def outOf(as_:List Att):Dcl:=⟨fstOf as_ [nUrl.loc],fstOf as_ [nTitle.loc,nText.loc]⟩
def addTo(acc:List Dcl)(x:Dcl):List Dcl:=if x.pre=[]∨x.pre∈acc.map (·.pre) then acc else acc++[x]
def attsAt(evs:List Ev)(k:Nat):List Att:=((evs[k]?).map (·.attrs)).getD []
def outs(evs:List Ev)(ks:List Nat):List Dcl:=ks.foldl (fun acc k=>addTo acc (outOf (attsAt evs k))) []
theorem outs_snoc(evs:List Ev)(ks:List Nat)(k:Nat):outs evs (ks++[k])=addTo (outs evs ks) (outOf (attsAt evs k)):=by simp[outs]
theorem outs_len(evs:List Ev)(ks:List Nat):(outs evs ks).length≤ks.length:=by
 have h:∀(ks:List Nat) (acc:List Dcl),(ks.foldl (fun acc k=>addTo acc (outOf (attsAt evs k))) acc).length≤acc.length+ks.length:=by
  intro ks
  induction ks with
  | nil=>intro acc;simp
  | cons k ks ih=>
   intro acc;rw[List.foldl_cons];refine Nat.le_trans (ih _) ?_;unfold addTo;split
   ·simp
    try omega
   simp
   try omega
 have:=h ks []
 simpa[outs] using this
def readE(evs:List Ev):Except Nat (List Dcl):=match Evs.firstIn evs nBody (Evs.kidsOf evs 0) with
 | none=>.error 43
 | some b=>if eqNm (Evs.nmAt evs 0) nOpml=true then (if 64<(outs evs (elemsOf evs nOutline b)).length then .error 42 else .ok (outs evs (elemsOf evs nOutline b))) else .error 43
end Opm
namespace Nf
theorem composed_len(s:List UInt8):(composed s).length≤4*s.length:=by
 unfold composed via;split
 ·refine Nat.le_trans textOf_len ?_;have:=comp_len (uscals s);have:=uscals_len s;omega
 omega
theorem nfc_len(s:List UInt8):(nfc s).length≤256*s.length:=by
 unfold nfc;split
 ·have:=composed_len (decomposed s);have:=decomposed_len s;omega
 omega
end Nf
theorem Tx.line_len(l:L):(Tx.line l).length≤256*(l.length+1):=by
 unfold Tx.line;have:=Nf.nfc_len (Tx.one l);have:=Tx.one_len l;omega
theorem Opm.fst_len{as_:List Att}(h:∀a∈as_,a.val.length≤100000):∀ns,(Opm.fstOf as_ ns).length≤30000000
 | []=>Nat.zero_le _
 | n :: r=>by
  unfold Opm.fstOf;split
  ·exact Opm.fst_len h r
  have h1:=Tx.line_len ((Evs.attrOf ⟨[],n⟩ as_).getD [])
  have h2:((Evs.attrOf ⟨[],n⟩ as_).getD []).length≤100000:=by
   unfold Evs.attrOf
   cases hi:Evs.idxNm ⟨[],n⟩ as_ with
   | none=>exact Nat.zero_le _
   | some k=>
    obtain⟨a,ha,-⟩:=Evs.idxNm_at hi;show (((as_[k]?).map (·.val)).getD []).length≤100000;rw[ha];exact h a (List.mem_of_getElem? ha)
  omega
theorem own_put{W:World}{base e size n:Nat}{v:Value}{xs:List Value}{D:Nat}{o:Obj}(h:W.ownsRow base e size v n xs)(hD:W.heap[D]?=some o)(o':Obj)(ho:o.isCells=false:=by rfl):(W.putObj D o').ownsRow base e size v n xs:=h.kept (grownBy_putObj' W D o') (by
 cases hb:v.ownBlock with
 | none=>exact .inl rfl
 | some g=>
  refine .inr fun e=>?_;obtain⟨_,cs,fr,hc⟩:=own_isT h g hb;injection e with e
  subst e;rw[hD] at hc;cases hc;cases ho)
theorem own_le{w:World}{base e size:Nat}{A:Option Addr}{n c:Nat}{xs:List Value}(h:w.ownsRow base e size (.slice A n c) n xs):n≤c:=by
 rcases h.2 with ⟨h0,h1⟩|⟨g',cap',cur,e,hb,hh,h1,h2,h3,h4⟩
 ·omega
 cases e;exact h1
theorem keepsF_below{B:Nat}{W W':World}(h:Below W.heap.size W W'):KeepsFrom B W W':=⟨h.size,fun k o _ hk _=>(h.block k (Array.getElem?_eq_some_iff.1 hk).1).trans hk⟩
def ReadO(w':World)(e:Ending)(r:Except Nat (List Dcl)):Prop:=match r with
 | .error c=>e=.returned (.tuple #[.slice none 0 0,.int .i64 (c:Int)])
 | .ok l=>∃A c,e=.returned (.tuple #[.slice A l.length c,.int .i64 0])∧l.length≤c∧Reads w' w'.heap.size 2 A l.length (dcls l)
theorem firstV_is(o:Option Nat):firstV o=.tuple #[.int .i64 ((o.getD 0:Nat):Int),.bool o.isSome]:=by cases o<;>rfl
theorem neq_nm(W:World)(x y:Nm):(if (bstr x.ns).toList=(bstr y.ns).toList then if (bstr x.loc).toList=(bstr y.loc).toList then Result.ok (Next.value (Value.bool false)) W else Result.ok (Next.value (Value.bool true)) W else Result.ok (Next.value (Value.bool true)) W)=Result.ok (Next.value (Value.bool (!eqNm x y))) W:=by
 unfold eqNm;simp only[bstr_eqI]
 by_cases h1:x.ns=y.ns<;>by_cases h2:x.loc=y.loc<;>simp[h1,h2]
theorem kpO_b{B z:Nat}{L:List Nat}(hB:B≤z)(hL:∀k∈L,k<z)(W:World)(l:Nat)(o o':Obj)(hl:z≤l)(_:W.heap[l]?=some o)(_:o.isCells=false)(_:o.isWalk=false):KpO B L W (W.putObj l o') :=
 ⟨⟨rfl,rfl,rfl,by simp[World.putObj],fun k hk=>World.putObj_heap_other (by omega)⟩,fun k hk=>World.putObj_heap_other (by have:=hL k hk;omega)⟩
theorem info_out:(Tryz.prog.info? 35).map (fun i=>(i.zero,i.size,i.bytes))=some (some (.agg #[.string ⟨#[]⟩,.string ⟨#[]⟩]),2,32):=by kernel_rfl
structure RdI(w:World)(Lb mb Wb Ob:Nat)(lv:Value)(k:Nat)(S:List L)(acc:List Dcl)(W:World):Prop where
 l:Blk W Lb 50 #[lv]
 wb:Blk W Wb 49 #[.map (some mb)]
 s:∃(n:Nat) (D:DataW Unit) (seen:List L),SeenS W mb n seen D∧n≤k∧∀x,x∈seen↔x∈S
 o:∃A c,Blk W Ob 22 #[.slice A acc.length c]∧W.ownsRow (Ob+1) 35 2 (.slice A acc.length c) acc.length (dcls acc)
 b:Below w.heap.size w W
section
variable {w W W' X Y:World} {Lb mb Wb Ob k:Nat} {lv:Value} {S:List L} {acc:List Dcl}
theorem RdI.z(h:RdI w Lb mb Wb Ob lv k S acc W):Ob<W.heap.size:=by
 obtain⟨A,c,ho,hr⟩:=h.o;exact ho.lt
theorem RdI.go(h:RdI w Lb mb Wb Ob lv k S acc W)(hb:Below W.heap.size W W'):RdI w Lb mb Wb Ob lv k S acc W':=by
 obtain⟨n,D,seen,hs,hn,hx⟩:=h.s;obtain⟨A,c,ho,hr⟩:=h.o;refine⟨h.l.go hb,h.wb.go hb,⟨n,D,seen,hs.same (hb.block _ hs.lt),hn,hx⟩,⟨A,c,ho.go hb,?_⟩,h.b.trans (hb.mono h.b.size)⟩
 rcases hr.2 with h0|⟨g,cap,cur,e,hg,hh,rest⟩
 ·exact⟨hr.1,.inl h0⟩
 exact⟨hr.1,.inr ⟨g,cap,cur,e,hg,(hb.block g (Array.getElem?_eq_some_iff.1 hh).1).trans hh,rest⟩⟩
theorem RdI.up{k':Nat}(h:RdI w Lb mb Wb Ob lv k S acc W)(hk:k≤k'):RdI w Lb mb Wb Ob lv k' S acc W:=by
 obtain⟨n,D,seen,hs,hn,hx⟩:=h.s;exact⟨h.l,h.wb,⟨n,D,seen,hs,Nat.le_trans hn hk,hx⟩,h.o,h.b⟩
theorem RdI.kept{z:Nat}{row:Option Nat}(h:RdI w Lb mb Wb Ob lv k S acc X)(hz:mb<z)(hw:w.heap.size≤z)(hg:X.grownBy Y row)(hrow:∀r,row=some r→z≤r∧∃o:Obj,X.heap[r]?=some o∧o.isCells=false):RdI w Lb mb Wb Ob lv k S acc Y:=by
 obtain⟨n,D,seen,hs,hn,hx⟩:=h.s;obtain⟨A,c,ho,hr⟩:=h.o;refine⟨h.l.grown hg (blk_rowE hrow h.l),h.wb.grown hg (blk_rowE hrow h.wb),⟨n,D,seen,hs.same (hg.block _ hs.lt fun e=>?_),hn,hx⟩,⟨A,c,ho.grown hg (blk_rowE hrow ho),hr.kept hg ?_⟩,h.b.grown hg h.b.size (fun k e=>by have:=(hrow k e).1;omega)⟩
 ·have:=(hrow mb e.symm).1;omega
 cases hb:(Value.slice A acc.length c).ownBlock with
 | none=>exact .inl rfl
 | some g=>
  refine .inr fun e=>?_;obtain⟨_,cs,fr,hc⟩:=own_isT hr g hb;obtain⟨_,o,ho2,hc2⟩:=hrow g e.symm;rw[ho2] at hc;cases hc;cases hc2
theorem RdI.fresh{n:Nat}{u:L}{D':DataW Unit}{seen S':List L}(h:RdI w Lb mb Wb Ob lv k S acc X)(hmw:w.heap.size≤mb)(hn:n≤k)(hm:∃es cl,X.heap[mb]?=some (.map es cl))(hS:∀x,x∈u :: seen↔x∈S')(hg:X.grownBy Y (some mb))(hs:SeenS Y mb (n+1) (u :: seen) D'):RdI w Lb mb Wb Ob lv (k+1) S' acc Y:=by
 have hne:∀{t cs},∀B,Blk X B t cs→some B≠some mb:=fun B hB e=>by
  injection e with e
  subst e;obtain⟨es,cl,h2⟩:=hm;rw[show X.heap[B]?=_ from hB] at h2;cases h2
 obtain⟨A,c,ho,hr⟩:=h.o;refine⟨h.l.grown hg (hne _ h.l),h.wb.grown hg (hne _ h.wb),⟨n+1,D',_,hs,by omega,hS⟩,⟨A,c,ho.grown hg (hne _ ho),hr.kept hg ?_⟩,h.b.grown hg h.b.size (fun k e=>by injection e with e;omega)⟩
 cases hb:(Value.slice A acc.length c).ownBlock with
 | none=>exact .inl rfl
 | some g=>
  refine .inr fun e=>?_;obtain⟨_,cs,fr,hc⟩:=own_isT hr g hb;obtain⟨es,cl,h2⟩:=hm;injection e with e
  subst e;rw[hc] at h2;cases h2
theorem RdI.app{A:Option Addr}{c g cap:Nat}{o:Obj}{x:Dcl}(h:RdI w Lb mb Wb Ob lv k S acc X)(hO:Blk X Ob 22 #[.slice A acc.length c])(hr:X.ownsRow (Ob+1) 35 2 (.slice A acc.length c) acc.length (dcls acc))(hwO:w.heap.size≤Ob)(hLO:Lb≠Ob)(hWO:Wb≠Ob)(hmO:mb≠Ob)
  (hg:(X.alloc o).grownBy Y (Value.slice A acc.length c).ownBlock) (ho:Y.ownsRow (Ob+1) 35 2 (.slice (some ⟨g,0,none⟩) (acc.length+1) cap) (acc.length+1) (dcls acc++dclCells x)) (hgO:Ob+1≤g) :
  RdI w Lb mb Wb Ob lv k S (acc++[x]) (Y.setCell ⟨Ob,0,none⟩ (.slice (some ⟨g,0,none⟩) (acc.length+1) cap)):=by
 have hown:=own_isT hr;have hne:∀{t cs},t≠35→∀B,Blk X B t cs→some B≠(Value.slice A acc.length c).ownBlock:=fun ht B hB e=>own_blk_ne hr hB (fun e2=>ht e2.symm) e.symm;have hl:(acc++[x]).length=acc.length+1:=by simp
 obtain⟨n,D,seen,hs,hn,hx⟩:=h.s;refine⟨?_,?_,⟨n,D,seen,hs.same ?_,hn,hx⟩,⟨some ⟨g,0,none⟩,cap,?_,?_⟩,?_⟩
 ·exact (((h.l.alloc o).grown hg (hne (by decide) _ h.l))).far (p:=⟨Ob,0,none⟩) hLO _
 ·exact (((h.wb.alloc o).grown hg (hne (by decide) _ h.wb))).far (p:=⟨Ob,0,none⟩) hWO _
 ·rw[Below.heap_setCell _ _ _ _ hmO,hg.block _ (by have:=hs.lt;simp;omega) (fun e=>?_),Below.heap_alloc _ _ _ hs.lt];obtain⟨es,cl,h2⟩:=(show ∃es cl,X.heap[mb]?=some (.map es cl) by obtain⟨es,cl,hb,_⟩:=hs.own;exact⟨es,cl,hb⟩);obtain⟨_,cs,fr,h3⟩:=hown _ e.symm;rw[h3] at h2;cases h2
 ·rw[hl];have:=((hO.alloc o).grown hg (hne (by decide) _ hO)).set_ 0 (.slice (some ⟨g,0,none⟩) (acc.length+1) cap)
  simpa using this
 ·rw[hl,show dcls (acc++[x])=dcls acc++dclCells x by simp[dcls]];exact ownsRow_setCell_other ho (by simp[Value.ownBlock];omega) _
 refine Below.setCell ((h.b.alloc h.b.size o).grown hg (by simp;have:=h.b.size;omega) (fun r e=>?_)) (p:=⟨Ob,0,none⟩) hwO _;have:=(hown r e).1;omega
end
end
section
open Go.RowKit Tk Sx Go.WideShapes

namespace Opm
end Opm
structure MgI(w:World)(rv:Array Value)(mb k:Nat)(S:List L)(acc:List Dcl)(v:Value)(W:World):Prop where
 s:∃(n:Nat) (D:DataW Unit) (seen:List L),SeenS W mb n seen D∧n≤k∧∀x,x∈seen↔x∈S
 o:∃A c,v=.slice A acc.length c∧W.ownsRow w.heap.size 35 2 v acc.length (dcls acc)
 b:Below w.heap.size w W
 r:Blk W (w.heap.size+1) 22 rv
section
variable {w W W' X Y:World} {rv:Array Value} {mb k:Nat} {v:Value} {S:List L} {acc:List Dcl}
end
end
section
open Go.RowKit Go.WideShapes

theorem bstr_ne{a b:List UInt8}(h:a≠b):bstr a≠bstr b:=fun e=>h (str_inj e)
theorem bstr_beq{a b:List UInt8}(h:a≠b):((bstr a).toList==(bstr b).toList)=false:=by
 rw[ByteArray.toList_eq,ByteArray.toList_eq,bstr_list,bstr_list];exact beq_eq_false_iff_ne.2 h
theorem isLine_any(l:List UInt8)(w:World)(hs:l.length≤200000) :
  Calls Tryz.prog 18 #[.string (bstr l)] w fun e w'=>e=.returned (.bool (Tx.isLine l))∧Below w.heap.size w w':=by
 have H1:=hide (right_any l w hs);have H2:=hide (fun W=>line_any l W hs);unfold Tx.isLine
 cases hv:Tx.right l with
 | false=>
  rw[hv] at H1;clear hv
  go_enter Tryz.func18,Tryz.ntmps18
  go_wp2_with fail
  refine H1.out.mono ?_;rintro e w1 ⟨rfl,hb⟩;have HB:=hide hb;clear hb;dsimp only;go_wp2;go_ret;exact⟨rfl,HB.out⟩
 | true=>
  rw[hv] at H1;clear hv
  by_cases he:Tx.line l=l
  ·rw[decide_eq_true he];rw[he] at H2;clear he
   go_enter Tryz.func18,Tryz.ntmps18
   go_wp2_with fail
   refine H1.out.mono ?_;rintro e w1 ⟨rfl,hb⟩;have HB:=hide hb;clear hb;dsimp only
   go_wp2_with fail
   refine (H2.out w1).mono ?_;rintro e w2 ⟨rfl,hb⟩;have HB2:=hide (HB.out.trans (hb.mono HB.out.size));clear hb;dsimp only;go_wp2;go_ret;exact⟨rfl,HB2.out⟩
  rw[decide_eq_false he];have hne:=bstr_ne he;have hbq:=bstr_beq he;clear he;generalize Tx.line l=m at *
  go_enter Tryz.func18,Tryz.ntmps18
  go_wp2_with fail
  refine H1.out.mono ?_;rintro e w1 ⟨rfl,hb⟩;have HB:=hide hb;clear hb;dsimp only
  go_wp2_with fail
  refine (H2.out w1).mono ?_;rintro e w2 ⟨rfl,hb⟩;have HB2:=hide (HB.out.trans (hb.mono HB.out.size));clear hb;dsimp only;go_wp2;go_ret;exact⟨rfl,HB2.out⟩
end
section
open Go.RowKit Go.WideShapes

theorem append_str_at{P:Program}(w:World)(base:Nat)(t u ty e:TypeId)(i:TypeInfo)(ht:P.underlying t=some (.slice e))(hu:P.underlying u=some .string)(hi:P.info? e=some i)(hz:i.zero=some (.int .u8 0))
  (hsize:i.size=1) (hby:i.bytes=1) (v:Value) (n:Nat) (xs:List Value) (hown:w.ownsRow base e 1 v n xs) (s:ByteArray) (hbytes:n+s.size≤140737488355328)
  {v':Value} {w':World} (hr:(Builtin.append_ #[t,u] ty #[v,.string s]).run P w=.ok v' w'):v'.ownBlock=v.ownBlock∨v'.ownBlock=some w.heap.size:=by
 have hxl:xs.length=n:=by simpa using hown.1
 rcases hown.2 with ⟨rfl,rfl⟩|⟨g,cap,cur,rfl,hbg,hg,hnc,hcm,hcs,htake⟩
 ·by_cases hm:s.size=0
  ·left
   have hf:=Lib.run_firstCells_string (P:=P) w 1 s;rw[hm] at hf;simp[Builtin.append_,run_underlying ht,run_underlying hu,sizeOf,typeInfo,hi,hsize,Builtin.lenOf,hm,hf] at hr;rw[←hr.1]
  right
  have h:=run_append_nil_string (P:=P) w t u ty e i (.int .u8 0) ht hu hi hz s (by omega) (by omega) (by rw[hby];omega);rw[hr] at h;injection h with h1 _
  rw[h1];rfl
 by_cases hroom:n+s.size≤cap
 ·left
  have hcs':cur.size=cap:=by simpa using hcs
  have h:=Lib.run_append_room_string (P:=P) w t u ty e i ht hu hi hsize g n cap cur hg s hroom (by omega);rw[hr] at h;injection h with h1 _
  rw[h1];rfl
 right
 have holds:∀j u,xs[j]?=some u→w.cell? ((⟨g,0,none⟩:Addr).add j)=some u:=hown.cells (g:=g) rfl;have h:=Lib.run_append_grow_string (P:=P) w t u ty e i (.int .u8 0) ht hu hi hz ⟨g,0,none⟩ n cap xs (by rw[hsize];simpa using hxl) holds s (by omega) (by omega) (by rw[hby];exact growslice_fits (by omega) (by omega));rw[hr] at h;injection h with h1 _
 rw[h1];rfl
theorem wpList_append_string_at{P:Program}(w:World){ops:Array Oper}{rest:List Oper}{o:Oper}{a:Act}{Q:Exit→Act→World→Prop}(hgd:o.guard=none)(sl x:Operand)(t u:TypeId)
  (ho:o.op=.call { callee:=.builtin .append,args:=#[sl,x],argTypes:=#[t,u] })
  (base:Nat) (e:TypeId) (ht:P.underlying t=some (.slice e)) (hu:P.underlying u=some .string) (hinfo:(P.info? e).map (fun i=>(i.zero,i.size,i.bytes))=some (some (.int .u8 0),1,1))
  (v:Value) (n:Nat) (xs:List Value) (hs:a.eval sl=v) (hown:w.ownsRow base e 1 v n xs) (s:ByteArray) (hx:a.eval x=.string s)
  (hbytes:n+s.size≤140737488355328) (hbase:base≤w.heap.size)
  (h:∀v' w',w'.ownsRow base e 1 v' (n+s.size) (xs++Lib.strCells s)→w.grownBy w' v.ownBlock→(v'.ownBlock=v.ownBlock∨v'.ownBlock=some w.heap.size)→wpList P ops Q rest (a.put o.dst v') w'):wpList P ops Q (o :: rest) a w:=by
 refine wpList_plain hgd fun K hK=>?_;obtain⟨i,hi,hz,hsize,hby⟩:=info_parts hinfo;obtain⟨v',w',hr,h2,h3,_⟩:=Lib.run_append_own_string (P:=P) w base t u o.type e i ht hu hi hz hsize hby v n xs hown s (by unfold maxLen;omega) hbytes hbase;have h4:=append_str_at (P:=P) w base t u o.type e i ht hu hi hz hsize hby v n xs hown s hbytes hr;unfold Oper.wp execOp;simp only[ho,resolve,invoke,builtin,Sem.run_bind,Sem.run_pure,Result.andThen_ok,List.map_toArray,List.map_cons,List.map_nil,hs,hx,hr];exact hK _ _ (h v' w' h2 h3 h4)
def Bf(B b:Nat)(l:List UInt8)(r:Option Nat)(w:World):Prop :=
 B≤b∧∃p v,(p=.pointer none∨p=.pointer (some ⟨b,0,none⟩))∧Blk w b 39 #[p,v]∧w.ownsRow B 5 1 v l.length (Lib.byteCells l)∧v.ownBlock=r
structure Fz(b:Nat)(r:Option Nat)(w w':World):Prop where
 os:w'.os=w.os
 tape:w'.tape=w.tape
 output:w'.output=w.output
 size:w.heap.size≤w'.heap.size
 block:∀k,k<w.heap.size→k≠b→some k≠r→w'.heap[k]?=w.heap[k]?
theorem Fz.refl(b:Nat)(r:Option Nat)(w:World):Fz b r w w:=⟨rfl,rfl,rfl,Nat.le_refl _,fun _ _ _ _=>rfl⟩
theorem Bf.bx{B b:Nat}{l:List UInt8}{r:Option Nat}{w:World}(h:Bf B b l r w):Bx B b l w:=by
 obtain⟨hB,p,v,hp,hk,ho,_⟩:=h;have hat:Lib.BuilderAt 39 5 B b p (Lib.byteCells l) w:=⟨hB,v,hk,by rw[Lib.byteCells_length];exact ho,own_blk_ne ho hk (by decide)⟩
 rcases hp with rfl|rfl
 ·exact .inl hat
 exact .inr hat
theorem Bf.fresh(w:World):Bf w.heap.size w.heap.size [] none (w.alloc (.cells #[.pointer none,.slice none 0 0] 39)) :=
 ⟨Nat.le_refl _,_,_,.inl rfl,Blk.new w _ _,World.ownsRow_nil _ _ _ _,rfl⟩
def Bg(W0:World)(B b:Nat)(r0:Option Nat)(l:List UInt8)(W:World):Prop:=∃r,Bf B b l r W∧(r=r0∨∃k,r=some k∧W0.heap.size≤k)∧Fz b r0 W0 W
theorem Bg.step{W0 W W':World}{B b:Nat}{r0 r:Option Nat}{l':List UInt8}(h0:r=r0∨∃k,r=some k∧W0.heap.size≤k)(hz:Fz b r0 W0 W)(h:Bg W B b r l' W'):Bg W0 B b r0 l' W':=by
 obtain⟨r',hb,hr,hf⟩:=h;refine⟨r',hb,?_,⟨hf.os.trans hz.os,hf.tape.trans hz.tape,hf.output.trans hz.output,Nat.le_trans hz.size hf.size,fun k hk hne hkr=>(hf.block k (Nat.lt_of_lt_of_le hk hz.size) hne ?_).trans (hz.block k hk hne hkr)⟩⟩
 ·rcases hr with rfl|⟨k,rfl,hk⟩
  ·exact h0
  exact .inr ⟨k,rfl,Nat.le_trans hz.size hk⟩
 rcases h0 with rfl|⟨k0,rfl,hk0⟩
 ·exact hkr
 intro e;injection e with e;omega
theorem cc_f{B b:Nat}{l:List UInt8}{r:Option Nat}{w:World}(h:Bf B b l r w) :
  Calls Tryz.prog 28 #[.pointer (some ⟨b,0,none⟩)] w fun e w'=>e=.returned (.tuple #[])∧∃v,Blk w' b 39 #[.pointer (some ⟨b,0,none⟩),v]∧w'.ownsRow B 5 1 v l.length (Lib.byteCells l)∧v.ownBlock=r∧Fz b r w w':=by
 obtain⟨hB,p,v,hp,hk,ho,hr⟩:=h;have hne:=own_blk_ne ho hk (by decide)
 rcases hp with rfl|rfl
 ·refine (cc_fresh b w (hk.cell 0) (by unfold Blk at hk;simp[World.shape?,hk]) (hk.frozen 0)).mono ?_;rintro e w' ⟨rfl,rfl⟩;refine⟨rfl,v,by simpa using hk.set_ 0 (.pointer (some ⟨b,0,none⟩)),ownsRow_setCell_other ho hne _,hr,⟨rfl,rfl,rfl,by simp[World.setCell],fun k hk2 h1 h2=>Below.heap_setCell _ _ _ _ (by exact h1)⟩⟩
 refine (cc_used b w (hk.cell 0)).mono ?_;rintro e w' ⟨rfl,rfl⟩;exact⟨rfl,v,hk,ho,hr,Fz.refl _ _ _⟩
theorem fz_end{B b:Nat}{r:Option Nat}{l':List UInt8}{w w1 w2:World}{v v':Value}(hB:B≤b)(hf:Fz b r w w1)(hk:Blk w1 b 39 #[.pointer (some ⟨b,0,none⟩),v])(hr:v.ownBlock=r)(hne:v.ownBlock≠some b)
  (ho:w2.ownsRow B 5 1 v' l'.length (Lib.byteCells l')) (hg:w1.grownBy w2 v.ownBlock) (hat:v'.ownBlock=v.ownBlock∨∃k,v'.ownBlock=some k∧w1.heap.size≤k):Bg w B b r l' (w2.setCell ⟨b,1,none⟩ v'):=by
 have hk2:Blk w2 b 39 #[.pointer (some ⟨b,0,none⟩),v]:=hk.grown hg (fun e=>hne e.symm);have hne2:=own_blk_ne ho hk2 (by decide);refine⟨v'.ownBlock,⟨hB,_,v',.inr rfl,by simpa using hk2.set_ 1 v',ownsRow_setCell_other ho hne2 _,rfl⟩,?_,⟨hg.os.trans hf.os,hg.tape.trans hf.tape,hg.output.trans hf.output,?_,fun k h1 h2 h3=>?_⟩⟩
 ·rcases hat with h|⟨k,h,hk3⟩
  ·exact .inl (h.trans hr)
  exact .inr ⟨k,h,Nat.le_trans hf.size hk3⟩
 ·have:=hf.size;have:=hg.size;simp only[World.setCell,Array.size_modify];omega
 rw[Below.heap_setCell _ _ _ _ (by exact h2),hg.block k (Nat.lt_of_lt_of_le h1 hf.size) (by rw[hr];exact h3)];exact hf.block k h1 h2 h3
theorem ws_f{B b:Nat}{l:List UInt8}{r:Option Nat}{w:World}(m:List UInt8)(h:Bf B b l r w)(hlen:l.length+m.length≤140737488355328)(hBw:B≤w.heap.size) :
  Calls Tryz.prog 15 #[.pointer (some ⟨b,0,none⟩),.string (bstr m)] w fun e w'=>(∃v,e=.returned v)∧Bg w B b r (l++m) w':=by
 have hB:=h.1;have HC:=hide (cc_f h);have hms:(bstr m).size=m.length:=bstr_size m;have HM:=hide hms;clear h
 go_enter Tryz.func15,Tryz.ntmps15
 go_wp2_with fail
 refine HC.out.mono ?_;rintro e w1 ⟨rfl,v,hk,ho,hr,hf⟩;have hne:=own_blk_ne ho hk (by decide);have HK:=hide hk;have HO:=hide ho;have HF:=hide hf;have Hr:=hide hr;have HN:=hide hne;have c0:=hk.cell 0;have c1:=hk.cell 1;have hsz:=hf.size;have HB:=hide hB;have hbw1:B≤w1.heap.size:=Nat.le_trans hBw hsz;clear hk ho hr hf hne hms hB;dsimp only
 go_wp2_with (at_builtin;go_loud (refine wpList_append_string_at w1 rfl _ _ 37 9 rfl B 5 Tryz.underlying37 Tryz.underlying9 info_u8b _ _ _ rfl HO.out (bstr m) rfl (by rw[HM.out];exact hlen) hbw1 ?_);intro v' w2 ho2 hg2 hat2;have hk2:=HK.out.grown hg2 (fun e=>HN.out e.symm);have d0:=hk2.cell 0;have d1:=hk2.cell 1;have f1:=hk2.frozen 1;have HO2:=hide ho2;have HG2:=hide hg2;have HA2:=hide hat2;obtain⟨ao,cap,rfl⟩:=own_form ho2;clear ho2 hg2 hat2 hk2)
 go_ret2;refine⟨⟨_,rfl⟩,?_⟩;refine fz_end HB.out HF.out HK.out Hr.out HN.out ?_ HG2.out (HA2.out.imp id fun h=>⟨_,h,Nat.le_refl _⟩);have h:=HO2.out;rw[HM.out] at h;rw[List.length_append,bxcells_app];exact h
theorem wb_f{B b:Nat}{l:List UInt8}{r:Option Nat}{w:World}(c:UInt8)(h:Bf B b l r w)(hlen:l.length+1≤140737488355328)(hBw:B≤w.heap.size) :
  Calls Tryz.prog 29 #[.pointer (some ⟨b,0,none⟩),.int .u8 (c.toNat:Nat)] w fun e w'=>e=.returned .nilIface∧Bg w B b r (l++[c]) w':=by
 have hB:=h.1;have HC:=hide (cc_f h);obtain⟨i0,hi,hz0,hz1,hz2⟩:=info_parts info_u8b;clear h
 go_enter Tryz.func29,Tryz.ntmps29
 go_wp2_with fail
 refine HC.out.mono ?_;rintro e w1 ⟨rfl,v,hk,ho,hr,hf⟩;have hne:=own_blk_ne ho hk (by decide);have HK:=hide hk;have HO:=hide ho;have HF:=hide hf;have Hr:=hide hr;have HN:=hide hne;have c0:=hk.cell 0;have c1:=hk.cell 1;have hsz:=hf.size;have HB:=hide hB;have hbw1:B≤w1.heap.size:=Nat.le_trans hBw hsz;clear hk ho hr hf hne hB;dsimp only
 go_wp2_with (at_builtin;refine wpList_append_own_at _ rfl _ _ 37 rfl B 5 i0 (.int .u8 0) 1 1 Tryz.underlying37 hi hz0 hz1 hz2 rfl (by decide) _ _ _ rfl (HO.out.alloc _) ⟨w1.heap.size,0,none⟩ 1 1 [.int .u8 (c.toNat:Nat)] rfl rfl ?c1 ?c2 ?c3 ?c4 ?c5 ?_)
 case c1=>
  intro j u hj
  match j,hj with
  | 0,hj=>simp at hj;subst hj;simp[Addr.add]
 case c2=>intro u hu;simp at hu;subst hu;rfl
 case c3=>unfold maxLen;omega
 case c4=>omega
 case c5=>simp;omega
 intro v' w2 ho2 hg2 _ hat2;have hg3:w1.grownBy w2 v.ownBlock:=⟨hg2.os,hg2.tape,hg2.output,Nat.le_trans (by simp) hg2.size,fun k hk hne=>(hg2.block k (by simp;omega) hne).trans (Below.heap_alloc w1 _ k hk)⟩
 have hat3:v'.ownBlock=v.ownBlock∨∃k,v'.ownBlock=some k∧w1.heap.size≤k:=by
  rcases hat2 with h|h
  ·exact .inl h
  exact .inr ⟨_,h,by simp⟩
 have hk2:=HK.out.grown hg3 (fun e=>HN.out e.symm);have d0:=hk2.cell 0;have d1:=hk2.cell 1;have f1:=hk2.frozen 1;have HO2:=hide ho2;have HG2:=hide hg3;have HA2:=hide hat3;obtain⟨ao,cap,rfl⟩:=own_form ho2;clear ho2 hg2 hg3 hat2 hat3 hk2;go_wp2;go_ret;refine⟨rfl,?_⟩;refine fz_end HB.out HF.out HK.out Hr.out HN.out ?_ HG2.out HA2.out;rw[List.length_append,bxcells_app];exact HO2.out
end
end Go.Proofs.YtifiiojchlaghaaGreatDoor
