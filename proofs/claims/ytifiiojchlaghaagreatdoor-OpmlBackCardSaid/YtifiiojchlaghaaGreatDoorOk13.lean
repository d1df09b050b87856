/- Strict: the program's declares, values, declare. And more. -/
import Derived.Test.YtifiiojchlaghaaGreatDoorOk12
import Derived.Deep.DeepCutAuto
set_option linter.unusedSimpArgs false
set_option maxHeartbeats 32000000
set_option linter.unusedVariables false
namespace Go.Proofs.YtifiiojchlaghaaGreatDoor
section
open Go.RowKit Tk Sx

structure SpAt(w:World)(b o:Nat)(s:Spl):Prop where
 c0:w.cell? ⟨b,o,none⟩=some (.string (bstr s.pre))
 c1:w.cell? ⟨b,o+1,none⟩=some (.string (bstr s.loc))
 c2:w.cell? ⟨b,o+2,none⟩=some (.string (bstr s.val))
 c3:w.cell? ⟨b,o+3,none⟩=some (.int .i64 (s.at_:Int))
theorem isE(l:L):(bstr l).toList.isEmpty=decide (l=[]):=by rw[ByteArray.toList_eq,bstr_list];cases l<;>simp
theorem eqE(l:L):((bstr l).toList==([]:L))=decide (l=[]):=lit_eq (bstr l) []

theorem declares_any(s:Spl)(w:World)(b o:Nat)(h:SpAt w b o s):Calls Tryz.prog 90 #[.pointer (some ⟨b,o,none⟩)] w fun e w'=>e=.returned (spV (declares s))∧Below w.heap.size w w':=by
 obtain⟨c0,c1,-,-⟩:=h;have h1:((bstr s.pre).toList==[120,109,108,110,115])=decide (s.pre=pXmlns):=lit_eq (bstr s.pre) _;have h2:((bstr s.loc).toList==[120,109,108,110,115])=decide (s.loc=pXmlns):=lit_eq (bstr s.loc) _;have h3:=isE s.pre;have h4:=eqE s.pre;obtain⟨z,hz⟩:∃z,declares s=z:=⟨_,rfl⟩;rw[hz];unfold declares at hz
 by_cases hp:s.pre=pXmlns
 ·have Hr:=hide (show spV z=.tuple #[.string (bstr s.loc),.bool true] by rw[←hz,if_pos hp];rfl);rw[decide_eq_true hp] at h1;have h3':(bstr s.pre).toList.isEmpty=false:=by rw[h3,hp];rfl
  clear hz hp h2 h3 h4 h3'
  go_enter Tryz.func90,Tryz.ntmps90
  go_wp2;go_ret2;rw[Hr.out];exact⟨rfl,Below.refl _ _⟩
 rw[decide_eq_false hp] at h1;rw[if_neg hp] at hz
 by_cases he:s.pre=[]
 ·have Hr:=hide (show spV z=.tuple #[.string ⟨#[]⟩,.bool (decide (s.loc=pXmlns))] by rw[←hz];unfold spV;simp[he];rfl);rw[decide_eq_true he] at h3 h4;generalize decide (s.loc=pXmlns)=q at *
  have hd:decide ((bstr s.pre).toList=[])=true:=by rw[decide_eq_true_iff,←List.isEmpty_iff,h3]
  clear hz hp he
  go_enter Tryz.func90,Tryz.ntmps90
  go_wp2
  go_quiet (fail)
  go_wp2;go_ret2;rw[Hr.out];exact⟨rfl,below_drewN (Below.refl _ _) _⟩
 have Hr:=hide (show spV z=.tuple #[.string ⟨#[]⟩,.bool false] by rw[←hz];unfold spV;simp[he];rfl);rw[decide_eq_false he] at h3 h4;have hd:decide ((bstr s.pre).toList=[])=false:=by rw[decide_eq_false_iff_not];intro h;rw[h] at h4;cases h4
 clear hz hp he h2
 go_enter Tryz.func90,Tryz.ntmps90
 go_wp2
 go_quiet (fail)
 go_wp2;go_ret2;rw[Hr.out];exact⟨rfl,below_drewN (Below.refl _ _) _⟩

structure Mvs(B P:Nat)(T:List Nat)(w w':World):Prop where
 os:w'.os=w.os
 tape:w'.tape=w.tape
 output:w'.output=w.output
 size:w.heap.size≤w'.heap.size
 block:∀k,k<w.heap.size→k≠P→¬(B≤k∧∃t∈T,IsT w k t)→w'.heap[k]?=w.heap[k]?
section
variable {B P:Nat} {T:List Nat} {w w1 w':World}
theorem Mvs.refl(B P:Nat)(T:List Nat)(w:World):Mvs B P T w w:=⟨rfl,rfl,rfl,Nat.le_refl _,fun _ _ _ _=>rfl⟩
theorem Mvs.trans(h:Mvs B P T w w1)(k:Mvs B P T w1 w'):Mvs B P T w w':=by
 refine⟨k.os.trans h.os,k.tape.trans h.tape,k.output.trans h.output,Nat.le_trans h.size k.size,fun i hi hb hn=>?_⟩;have e:=h.block i hi hb hn;rw[k.block i (Nat.lt_of_lt_of_le hi h.size) hb ?_,e];rintro ⟨h1,t,ht,h2⟩;exact hn ⟨h1,t,ht,isT_same h2 e.symm⟩
theorem Mvs.of_below(h:Below w.heap.size w w'):Mvs B P T w w':=⟨h.os,h.tape,h.output,h.size,fun k hk _ _=>h.block k hk⟩
theorem Mvs.of_but(h:But P w w'):Mvs B P T w w':=⟨h.os,h.tape,h.output,h.size,fun k hk hP _=>h.block k hk hP⟩
theorem Mvs.of_movt{t:Nat}(h:MovT B t w w')(ht:t∈T):Mvs B P T w w':=⟨h.os,h.tape,h.output,h.size,fun k hk _ hn=>h.block k hk fun hh=>hn ⟨hh.1,t,ht,hh.2⟩⟩
theorem Mvs.go(h:Mvs B P T w w1)(k:Below w1.heap.size w1 w'):Mvs B P T w w':=h.trans (.of_below k)
theorem Mvs.below{C:Nat}(h:Mvs B P T w w')(hB:C≤B)(hP:C≤P)(hs:C≤w.heap.size):Below C w w':=⟨h.os,h.tape,h.output,h.size,fun k hk=>h.block k (by omega) (by omega) (fun hh=>by omega)⟩
theorem Mvs.setP(h:Mvs B P T w w1){p:Addr}(hp:p.block=P∨w.heap.size≤p.block)(u:Value):Mvs B P T w (w1.setCell p u):=by
 refine⟨h.os,h.tape,h.output,by simpa[World.setCell] using h.size,fun k hk hb hn=>?_⟩;rw[Below.heap_setCell _ _ _ _ (by omega)];exact h.block k hk hb hn
theorem Mvs.setT(h:Mvs B P T w w1){p:Addr}{t:Nat}(hp:B≤p.block∧IsT w1 p.block t)(ht:t∈T)(u:Value):Mvs B P T w (w1.setCell p u) :=
 h.trans ⟨rfl,rfl,rfl,by simp[World.setCell],fun k _ _ hn=>Below.heap_setCell _ _ _ _ (by rintro rfl;exact hn ⟨hp.1,t,ht,hp.2⟩)⟩
theorem Mvs.blk{g t:Nat}{cs:Array Value}(h:Mvs B P T w w')(hg:Blk w g t cs)(hP:g≠P)(ht:t∉T):Blk w' g t cs :=
 (h.block g hg.lt hP (fun⟨_,t',ht',h2⟩=>isT_ne hg.isT h2 (fun e=>ht (by rw[e];exact ht')))).trans hg
theorem Mvs.own{b e size n t:Nat}{v:Value}{xs:List Value}{cs:Array Value}(h:Mvs B P T w w')(ho:w.ownsRow b e size v n xs)(hP:Blk w P t cs)(hne:e≠t)(ht:e∉T):w'.ownsRow b e size v n xs:=by
 refine⟨ho.1,?_⟩
 rcases ho.2 with hn|⟨g,cap,cur,rfl,hbg,hgg,rest⟩
 ·exact .inl hn
 refine .inr ⟨g,cap,cur,rfl,hbg,(h.block g (Array.getElem?_eq_some_iff.1 hgg).1 (fun e1=>?_) (fun⟨_,t',ht',h2⟩=>isT_ne ⟨cur,_,hgg⟩ h2 (fun e1=>ht (by rw[e1];exact ht')))).trans hgg,rest⟩;subst e1;exact isT_ne ⟨cur,_,hgg⟩ hP.isT hne
theorem But.mvs{Z:Nat}(h:But P w w1)(hZ:w.heap.size≤Z)(k:Mvs Z P T w1 w'):But P w w' :=
 ⟨k.os.trans h.os,k.tape.trans h.tape,k.output.trans h.output,Nat.le_trans h.size k.size,fun i hi hP=>(k.block i (Nat.lt_of_lt_of_le hi h.size) hP (fun hh=>by omega)).trans (h.block i hi hP)⟩
theorem Mov.of_mvs(h:Mvs B P [152] w w'):Mov B P w w':=⟨h.os,h.tape,h.output,h.size,fun k hk hP hn=>h.block k hk hP fun hh=>by
 obtain⟨h1,t,ht,h2⟩:=hh;simp only[List.mem_singleton] at ht;subst ht;exact hn ⟨h1,.inr (.inl h2)⟩⟩
theorem PI.far{st:St}{b:Bad}{v:Pv}(h:PI B P w st b v){p:Addr}{t:Nat}{cs:Array Value}(hp:Blk w p.block t cs)(ht:t∉[80,110,152,62,125,88])(u:Value):PI B P (w.setCell p u) st b v:=by
 have n1:∀{t'},t'∈[80,110,152,62,125,88]→t'≠t:=fun hh e=>ht (by rw[←e];exact hh);have hm:But p.block w (w.setCell p u):=(But.refl _ _).setCell (.inl rfl) u;refine⟨h.blk.far (h.blk.ne_ hp (n1 (by simp))) u,h.bp,own_far h.o hp (n1 (by simp)) u,own_far h.s hp (n1 (by simp)) u,own_far h.e hp (n1 (by simp)) u,h.ev,fun x hx=>?_,?_⟩
 ·have hi:=h.inn x hx
  have sa:∀a,x.A=some a→(w.setCell p u).heap[a.block]?=w.heap[a.block]?:=fun a ha=>hm.block _ (hi.ta a ha).lt fun e=>by
   have:=hi.ta a ha;rw[e] at this;exact isT_ne this hp.isT (n1 (by simp))
  exact⟨hi.a.same sa hm.size,hi.va,hi.ta.same sa⟩
 have hb:=h.bad;unfold BadAt at hb ⊢
 cases b with
 | none=>exact hb
 | some x=>
  obtain⟨F,h1,h2,h3⟩:=hb;exact⟨F,h1,h2,h3.far (h3.ne_ hp (n1 (by simp))) u⟩
end
def badV(x:Option Nat):Bad:=x.map fun a=>(a,50)
theorem orB_badV(x:Option Nat)(a:Nat):orB (badV x) a 50=badV (x.or (some a)):=by cases x<;>rfl
theorem valsAt_snoc(l:List At)(a:At):valsAt (l++[a])=(valsAt l).or (match value a.value with | .ok _=>none | .error _=>some a.at_):=by
 induction l with
 | nil=>simp only[List.nil_append,valsAt,Option.none_or];cases value a.value<;>rfl
 | cons x l ih=>
  rw[List.cons_append,valsAt,valsAt,ih]
  cases value x.value<;>rfl
theorem splOf_at(a:At):(splOf a).at_=a.at_:=by unfold splOf;cases split a.name<;>rfl
theorem spl_len(s:Spl):(splCells s).length=4:=rfl
def valTo(k:Nat)(as_:List At):List Spl:=(as_.take k).map valued++(as_.drop k).map splOf
theorem valTo_len(k:Nat)(as_:List At):(valTo k as_).length=as_.length:=by unfold valTo;simp only[List.length_append,List.length_map,List.length_take,List.length_drop];omega
theorem valTo_next{k:Nat}{as_:List At}{a:At}(h:as_[k]?=some a):valTo (k+1) as_=(valTo k as_).set k (valued a):=by
 obtain⟨h1,h2⟩:=List.getElem?_eq_some_iff.1 h;have hl:((as_.take k).map valued).length=k:=by simp;omega
 unfold valTo;rw[List.take_succ_eq_append_getElem h1,h2,List.map_append,List.set_append_right _ _ (by omega),hl,Nat.sub_self,List.drop_eq_getElem_cons h1,List.map_cons,List.map_cons,List.set_cons_zero,List.map_nil,List.append_assoc];rfl
theorem spls_set{k:Nat}{l:List Spl}{s:Spl}{d:L}(h:l[k]?=some s):(spls l).set (k*4+2) (.string (bstr d))=spls (l.set k ⟨s.pre,s.loc,d,s.at_⟩):=by
 obtain⟨h1,h2⟩:=List.getElem?_eq_some_iff.1 h;have e:l=l.take k++s :: l.drop (k+1):=by rw[←h2,←List.drop_eq_getElem_cons h1,List.take_append_drop]
 have hl:(l.take k).length=k:=by rw[List.length_take];omega
 have e2:l.set k ⟨s.pre,s.loc,d,s.at_⟩=l.take k++⟨s.pre,s.loc,d,s.at_⟩ :: l.drop (k+1):=by
  conv=>lhs;rw[e]
  rw[List.set_append_right _ _ (by omega),hl,Nat.sub_self];rfl
 rw[e2]
 conv=>lhs;rw[e]
 unfold spls;rw[List.flatMap_append,List.flatMap_append,List.flatMap_cons,List.flatMap_cons,List.set_append_right _ _ (by rw[fm_length spl_len,hl];omega),fm_length spl_len,hl,Nat.add_sub_cancel_left];rfl

def ValuesR(B P base:Nat)(w:World)(st:St)(v:Pv)(as_:List At)(Al:Option Addr)(cl:Nat)(e:Ending)(w':World):Prop :=
 ∃vb,e=.returned (.tuple #[])∧PI B P w' st (badV (valsAt as_)) ⟨v.Ao,v.co,v.As,v.cs,v.Ae,v.ce,vb,v.xs⟩∧w'.ownsRow base 150 4 (.slice Al as_.length cl) as_.length (spls (as_.map valued))∧Mvs base P [150] w w'

theorem values_any(B P base:Nat)(w:World)(st:St)(v:Pv)(b o:Nat)(as_:List At)(At_ Al:Option Addr)(ct cl:Nat)(h:PI B P w st none v)(hB:B≤w.heap.size)(hbs:B≤base)
  (hl:w.ownsRow base 150 4 (.slice Al as_.length cl) as_.length (spls (as_.map splOf))) (hb:b<B) (ht:w.cell? ⟨b,o+2,none⟩=some (.slice At_ as_.length ct)) (hr:Reads w B 3 At_ as_.length (gas (as_.map At.g)))
  (hn:as_.length≤1000000000) (hv:∀a∈as_,a.value.length≤100000) :
  Calls Tryz.prog 57 #[.pointer (some ⟨P,0,none⟩),.pointer (some ⟨b,o,none⟩),.slice Al as_.length cl] w (ValuesR B P base w st v as_ Al cl):=by
 have H:=hide h;have HB:=hide hB;have Hv:=hide hv;have Hl:=hide hl;have Hr:=hide hr;obtain⟨n,hnn⟩:∃n,as_.length=n:=⟨_,rfl⟩;rw[hnn] at ht hn Hl Hr ⊢;have HN:=hide hnn;clear h hB hl hr hv hnn
 go_enter Tryz.func57,Tryz.ntmps57
 go_wp2
 go_loopg [16] n (fun gk vk wr=>∃(k:Nat) (vb:Value),gk=n-k∧k≤n∧vk=.int .i64 (k:Int)∧PI B P wr st (badV (valsAt (as_.take k))) ⟨v.Ao,v.co,v.As,v.cs,v.Ae,v.ce,vb,v.xs⟩∧
  wr.ownsRow base 150 4 (.slice Al n cl) n (spls (valTo k as_))∧Mvs base P [150] w wr)
 case atStart=>exact⟨0,v.vb,rfl,by omega,rfl,H.out,Hl.out,Mvs.refl _ _ _ _⟩
 case round=>
  obtain⟨k,vb,hgk,hk,rfl,h1,h2,h3⟩:=hrel;have Hg:=hide hgk;have H1:=hide h1;have H2:=hide h2;have H3:=hide h3;clear hgk h1 h2 h3
  by_cases hlt:k<n
  ·obtain⟨a,ha⟩:∃a,as_[k]?=some a:=⟨_,List.getElem?_eq_getElem (by rw[HN.out];exact hlt)⟩;have hkl:k<as_.length:=by rw[HN.out];exact hlt
   have hRr:=(Hr.out.below (H3.out.below hbs H.out.bp HB.out));rw[←HN.out] at hRr;rw[show as_.length=(as_.map At.g).length by rw[List.length_map]] at hRr;obtain⟨ab,ao,hAt,hab,ga⟩:=Reads.ga hRr (k:=k) (by rw[List.length_map];exact hkl);rw[List.getElem_map,(List.getElem?_eq_some_iff.1 ha).2] at ga;have g0:wr.cell? ⟨ab,ao+k*3,none⟩=some (.string (bstr a.name)):=ga.c0;have g1:wr.cell? ⟨ab,ao+k*3+1,none⟩=some (.string (bstr a.value)):=ga.c1;have g2:wr.cell? ⟨ab,ao+k*3+2,none⟩=some (.int .i64 (a.at_:Int)):=ga.c2;obtain⟨lg,lc,hlv,hlb,hll⟩:=H2.out.form (by omega);have hAl:Al=some ⟨lg,0,none⟩:=by injection hlv
   subst hAl;cases hlv;subst hAt;have hwk:IntKind.i64.wrap ((k:Int)+1)=(k:Int)+1:=IntWalk.i64_in _ (by omega)
   have hVT:(valTo k as_)[k]?=some (splOf a):=by
    unfold valTo;have hl1:((as_.take k).map valued).length=k:=by simp;omega
    rw[List.getElem?_append_right (by omega),hl1,Nat.sub_self,List.getElem?_map,List.getElem?_drop,Nat.add_zero,ha];rfl
   have HNx:=hide (show spls (valTo (k+1) as_)=(spls (valTo k as_)).set (k*4+2) (.string (bstr (Sx.valOf a))) by rw[spls_set hVT,valTo_next ha,show valued a=⟨(splOf a).pre,(splOf a).loc,Sx.valOf a,(splOf a).at_⟩ by unfold valued;rw[splOf_at]])
   have HBd:=hide (show valsAt (as_.take (k+1))=(valsAt (as_.take k)).or (match value a.value with | .ok _=>none | .error _=>some a.at_) by
    rw[List.take_succ_eq_append_getElem hkl,(List.getElem?_eq_some_iff.1 ha).2,valsAt_snoc])
   have HVa:=hide (fun W=>value15_any a.value W (Hv.out a (List.mem_of_getElem? ha)));have Hwr:=hide (show B≤wr.heap.size from Nat.le_trans HB.out H3.out.size);have KV:=hide (Blk.new wr 148 #[.string (bstr a.name),.string (bstr a.value),.int .i64 (a.at_:Int)]);have B1:=hide (below_alloc wr (.cells #[.string (bstr a.name),.string (bstr a.value),.int .i64 (a.at_:Int)] 148));have hVo:Sx.valOf a=match value a.value with | .ok v=>v | .error _=>[]:=rfl
   clear hVT ga hRr ha hkl
   cases hy:value a.value with
   | ok out=>
    rw[hy] at HVa HBd hVo;dsimp only at HBd hVo;rw[hVo] at HNx;unfold strV at HVa;clear hy hVo
    go_wp2_with fail
    refine (HVa.out _).mono ?_;rintro e w2 ⟨rfl,b2⟩;have B2:=hide (B1.out.trans (b2.mono B1.out.size));have I2:=hide (H1.out.go B2.out);have O2:=hide (own_go H2.out B2.out);have M2:=hide (H3.out.go B2.out)
    have hbl:∃cs,Blk w2 lg 150 cs:=by
     rcases O2.out.2 with ⟨h,_⟩|⟨g',c',cur,h,_,hh,_⟩
     ·cases h
     cases h;exact⟨cur,hh⟩
    obtain⟨cur,hbl⟩:=hbl;have HBl:=hide hbl;have s2:w2.cell? ⟨lg,k*4+2,none⟩=(spls (valTo k as_))[k*4+2]?:=O2.out.cellAt (k*4+2) (by omega);rw[show (spls (valTo k as_))[k*4+2]?=some ((spls (valTo k as_))[k*4+2]'(by unfold spls;rw[fm_length spl_len,valTo_len,HN.out];omega)) from List.getElem?_eq_getElem _] at s2;have fr2:=O2.out.frozenAt (k*4+2);clear b2 hbl;go_wp2
    go_roundg (n-(k+1))
    case measure=>have:=Hg.out;omega
    case rel=>
     refine⟨k+1,vb,rfl,by omega,by first|rfl|go_num,?_,?_,?_⟩
     ·rw[HBd.out,Option.or_none];exact I2.out.far (p:=⟨lg,k*4+2,none⟩) HBl.out (by decide) _
     ·rw[HNx.out];exact (O2.out.stored (k*4+2) _).1
     exact M2.out.setT (p:=⟨lg,k*4+2,none⟩) (t:=150) ⟨hlb,HBl.out.isT⟩ (by simp) _
   | error x=>
    rw[hy] at HVa HBd hVo;dsimp only at HBd hVo;rw[hVo] at HNx;unfold strV at HVa;clear hy hVo
    go_wp2_with fail
    refine (HVa.out _).mono ?_;rintro e w2 ⟨rfl,b2⟩;have B2:=hide (B1.out.trans (b2.mono B1.out.size));have I2:=hide (H1.out.go B2.out);have O2:=hide (own_go H2.out B2.out);have M2:=hide (H3.out.go B2.out);have KV2:=KV.out.go (b2);have v2:w2.cell? ⟨wr.heap.size,2,none⟩=some (.int .i64 (a.at_:Int)):=KV2.cell 2;have HW:=hide (wrongB_any B P w2 st _ _ a.at_ 50 I2.out (Nat.le_trans Hwr.out B2.out.size));have hPl:=I2.out.blk;clear b2 KV2
    go_wp2_with fail
    refine HW.out.mono ?_;rintro e w3 ⟨vb3,rfl,h1,h2⟩;have I3:=hide h1;have B3:=hide h2;have O3:=hide (Mvs.own (B:=0) (T:=[]) (.of_but h2) O2.out hPl (by decide) (by simp));have M3:=hide (M2.out.trans (.of_but h2));clear h1 h2 hPl
    have hbl:∃cs,Blk w3 lg 150 cs:=by
     rcases O3.out.2 with ⟨h,_⟩|⟨g',c',cur,h,_,hh,_⟩
     ·cases h
     cases h;exact⟨cur,hh⟩
    obtain⟨cur,hbl⟩:=hbl;have HBl:=hide hbl;have s2:w3.cell? ⟨lg,k*4+2,none⟩=(spls (valTo k as_))[k*4+2]?:=O3.out.cellAt (k*4+2) (by omega);rw[show (spls (valTo k as_))[k*4+2]?=some ((spls (valTo k as_))[k*4+2]'(by unfold spls;rw[fm_length spl_len,valTo_len,HN.out];omega)) from List.getElem?_eq_getElem _] at s2;have fr2:=O3.out.frozenAt (k*4+2);clear hbl;go_wp2
    go_roundg (n-(k+1))
    case measure=>have:=Hg.out;omega
    case rel=>
     refine⟨k+1,vb3,rfl,by omega,by first|rfl|go_num,?_,?_,?_⟩
     ·rw[HBd.out,←orB_badV];exact I3.out.far (p:=⟨lg,k*4+2,none⟩) HBl.out (by decide) _
     ·rw[HNx.out];exact (O3.out.stored (k*4+2) _).1
     exact M3.out.setT (p:=⟨lg,k*4+2,none⟩) (t:=150) ⟨hlb,HBl.out.isT⟩ (by simp) _
  have hall:k=n:=by omega
  subst hall;have e1:as_.take k=as_:=List.take_of_length_le (by rw[HN.out];exact Nat.le_refl _)
  have e2:valTo k as_=as_.map valued:=by
   unfold valTo;rw[e1,List.drop_of_length_le (by rw[HN.out];exact Nat.le_refl _),List.map_nil,List.append_nil]
  have I:=hide H1.out;have O:=hide H2.out;rw[e1] at I;rw[e2] at O;clear e1 e2;go_wp2;go_end0;exact⟨vb,rfl,I.out,by rw[HN.out];exact O.out,H3.out⟩
end
section
open Go.RowKit Tk Sx

theorem declared_snoc(sc:List Dcl)(l:List Spl)(s:Spl):declared sc (l++[s])=if (declares s).2 then declared sc l++[⟨(declares s).1,s.val⟩] else declared sc l:=by
 induction l generalizing sc with
 | nil=>simp only[List.nil_append,declared]
 | cons x l ih=>
  rw[List.cons_append,declared,declared];split
  ·exact ih _
  exact ih _
theorem declAt_snoc(l:List Spl)(s:Spl):declAt (l++[s])=(declAt l).or (if (declares s).2 && !mayD (declares s).1 s.val then some s.at_ else none):=by
 induction l with
 | nil=>simp only[List.nil_append,declAt,Option.none_or]
 | cons x l ih=>
  rw[List.cons_append,declAt,declAt,ih];split
  ·rfl
  rfl
theorem declared_len(l:List Spl):∀sc:List Dcl,(declared sc l).length≤sc.length+l.length:=by
 induction l with
 | nil=>intro sc;exact Nat.le_refl _
 | cons x l ih=>
  intro sc;rw[declared];split
  ·have:=ih (sc++[⟨(declares x).1,x.val⟩]);rw[List.length_append] at this;simp at this ⊢;omega
  have:=ih sc;simp;omega
theorem PI.setS{B P:Nat}{w w1:World}{st:St}{b:Bad}{v:Pv}{A:Option Addr}{c:Nat}{sc:List Dcl}(h:PI B P w st b v)(hm:MovT B 152 w w1)(ho:w1.ownsRow B 152 2 (.slice A sc.length c) sc.length (dcls sc)) :
  PI B P (w1.setCell ⟨P,1,none⟩ (.slice A sc.length c)) ⟨st.open_,sc,st.evs,st.rooted⟩ b ⟨v.Ao,v.co,A,c,v.Ae,v.ce,v.vb,v.xs⟩:=by
 have hb:=hm.blk h.blk (by decide);refine⟨hb.set_ 1 _,h.bp,?_,?_,?_,h.ev,?_,?_⟩
 ·exact own_far (p:=⟨P,1,none⟩) (hm.own h.o (by decide)) hb (by decide) _
 ·exact own_far (p:=⟨P,1,none⟩) ho hb (by decide) _
 ·exact own_far (p:=⟨P,1,none⟩) (hm.own h.e (by decide)) hb (by decide) _
 ·intro y hy;have hy1:y.In B w1:=(h.inn y hy).movt hm (by decide);exact hy1.mov ((Mov.refl B P w1).setCell (p:=⟨P,1,none⟩) (.inl rfl) _) (ew_notP hy1 hb)
 have h1:=h.bad.movt hm (by decide);exact h1.mov ((Mov.refl B P w1).setCell (p:=⟨P,1,none⟩) (.inl rfl) _) hb (by decide)
theorem dcls_snoc(l:List Dcl)(p u:L):dcls (l++[⟨p,u⟩])=dcls l++[.string (bstr p),.string (bstr u)]:=by simp[dcls,dclCells]
theorem two_one(p u:ByteArray):∀x∈([.string p,.string u]:List Value),x.oneCell'=true:=by
 intro x hx;simp only[List.mem_cons,List.not_mem_nil,or_false] at hx
 rcases hx with rfl|rfl<;>rfl
theorem sp_cells{w:World}{B g c n k:Nat}{l:List Spl}{x:Spl}(h:w.ownsRow B 150 4 (.slice (some ⟨g,0,none⟩) n c) n (spls l))(hn:l.length=n)(hx:l[k]?=some x):SpAt w g (k*4) x:=by
 obtain⟨h1,h2⟩:=List.getElem?_eq_some_iff.1 hx
 have hc:∀j,j<4→w.cell? ⟨g,k*4+j,none⟩=(splCells x)[j]?:=fun j hj=>by
  rw[h.cellAt (k*4+j) (by omega)];unfold spls;rw[fm_at spl_len l k h1 j hj,h2]
 exact⟨hc 0 (by omega),hc 1 (by omega),hc 2 (by omega),hc 3 (by omega)⟩
def DeclR(B P:Nat)(w:World)(st:St)(v:Pv)(ss:List Spl)(e:Ending)(w':World):Prop :=
 ∃v',e=.returned (.tuple #[])∧PI B P w' ⟨st.open_,declared st.scope ss,st.evs,st.rooted⟩ (badV (declAt ss)) v'∧Mvs B P [152] w w'∧v'.Ao=v.Ao

theorem declare_any(B P base:Nat)(w:World)(st:St)(v:Pv)(ss:List Spl)(Al:Option Addr)(cl:Nat)(h:PI B P w st none v)(hB:B≤w.heap.size)
  (hl:w.ownsRow base 150 4 (.slice Al ss.length cl) ss.length (spls ss)) (hn:ss.length≤100000000) (hs:st.scope.length≤100000000) :
  Calls Tryz.prog 58 #[.pointer (some ⟨P,0,none⟩),.slice Al ss.length cl] w (DeclR B P w st v ss):=by
 have H:=hide h;have HB:=hide hB;have Hl:=hide hl;have Hs:=hide hs;obtain⟨n,hnn⟩:∃n,ss.length=n:=⟨_,rfl⟩;rw[hnn] at hn Hl ⊢;have HN:=hide hnn;clear h hB hl hnn hs
 go_enter Tryz.func58,Tryz.ntmps58
 go_wp2
 go_loopg [11] n (fun gk vk wr=>∃(k:Nat) (vr:Pv),gk=n-k∧k≤n∧vk=.int .i64 (k:Int)∧PI B P wr ⟨st.open_,declared st.scope (ss.take k),st.evs,st.rooted⟩ (badV (declAt (ss.take k))) vr∧Mvs B P [152] w wr∧vr.Ao=v.Ao)
 case atStart=>exact⟨0,v,rfl,by omega,rfl,H.out,Mvs.refl _ _ _ _,rfl⟩
 case round=>
  obtain⟨k,vr,hgk,hk,rfl,h1,h3,hAo⟩:=hrel;have Hg:=hide hgk;have H1:=hide h1;have H3:=hide h3;have HAo:=hide hAo;clear hgk h1 h3 hAo
  by_cases hlt:k<n
  ·obtain⟨s,hs⟩:∃s,ss[k]?=some s:=⟨_,List.getElem?_eq_getElem (by rw[HN.out];exact hlt)⟩;have hkl:k<ss.length:=by rw[HN.out];exact hlt
   have O1:=hide (Mvs.own H3.out Hl.out H.out.blk (by decide) (by decide));obtain⟨lg,lc,hlv,hlb,hll⟩:=O1.out.form (by omega);have hAl:Al=some ⟨lg,0,none⟩:=by injection hlv
   subst hAl;cases hlv;have Sp:=hide (sp_cells O1.out HN.out hs);have hwk:IntKind.i64.wrap ((k:Int)+1)=(k:Int)+1:=IntWalk.i64_in _ (by omega);have hts:ss.take (k+1)=ss.take k++[s]:=by rw[List.take_succ_eq_append_getElem hkl,(List.getElem?_eq_some_iff.1 hs).2]
   have HSc:=hide (show declared st.scope (ss.take (k+1))=if (declares s).2 then declared st.scope (ss.take k)++[⟨(declares s).1,s.val⟩] else declared st.scope (ss.take k) by rw[hts];exact declared_snoc _ _ _);have HBd:=hide (show declAt (ss.take (k+1))=(declAt (ss.take k)).or (if (declares s).2 && !mayD (declares s).1 s.val then some s.at_ else none) by rw[hts];exact declAt_snoc _ _);have HD:=hide (declares_any s wr lg (k*4) Sp.out);have Hwr:=hide (show B≤wr.heap.size from Nat.le_trans HB.out H3.out.size);have Hdl:=hide (show (declared st.scope (ss.take k)).length≤200000000 by have:=declared_len (ss.take k) st.scope;rw[List.length_take] at this;have:=Hs.out;omega);have u2:=Sp.out.c2;have u3:=Sp.out.c3;obtain⟨⟨p,is⟩,hd⟩:∃d,declares s=d:=⟨_,rfl⟩;rw[hd] at HSc HBd HD;dsimp only at HSc HBd;unfold spV at HD;dsimp only at HD;obtain⟨u,hu⟩:∃u,s.val=u:=⟨_,rfl⟩;rw[hu] at u2 HSc HBd;clear hts hs hkl hd hu
   cases is with
   | false=>
    go_wp2_with fail
    refine HD.out.mono ?_;rintro e w2 ⟨rfl,b2⟩;have I2:=hide (H1.out.go b2);have M2:=hide (H3.out.go b2);clear b2;go_wp2
    go_roundg (n-(k+1))
    case measure=>have:=Hg.out;omega
    case rel=>exact⟨k+1,vr,rfl,by omega,by first|rfl|go_num,by rw[HSc.out,HBd.out];simpa using I2.out,M2.out,HAo.out⟩
   | true=>
    have q1:((bstr p).toList==[120,109,108,110,115])=decide (p=pXmlns):=lit_eq (bstr p) _;have q2:((bstr u).toList==[104,116,116,112,58,47,47,119,119,119,46,119,51,46,111,114,103,47,50,48,48,48,47,120,109,108,110,115,47])=decide (u=xmlnsNs):=lit_eq (bstr u) _;have q3:((bstr p).toList==[120,109,108])=decide (p=pXml):=lit_eq (bstr p) _;have q4:((bstr u).toList==[104,116,116,112,58,47,47,119,119,119,46,119,51,46,111,114,103,47,88,77,76,47,49,57,57,56,47,110,97,109,101,115,112,97,99,101])=decide (u=xmlNs):=lit_eq (bstr u) _;have q5:=isE p;have q5':=eqE p;have q6:=isE u;have q6':=eqE u;have hma:mayD p u=((!decide (p=pXmlns))&&(!decide (u=xmlnsNs))&&(decide (p=pXml)==decide (u=xmlNs))&&(decide (p=[]) || !decide (u=[]))):=by unfold mayD;simp only[decide_not,ne_eq]
    generalize decide (p=pXmlns)=a1 at *
    generalize decide (u=xmlnsNs)=a2 at *
    generalize decide (p=pXml)=a3 at *
    generalize decide (u=xmlNs)=a4 at *
    generalize decide (p=[])=a5 at *
    generalize decide (u=[])=a6 at *
    have HMa:=hide hma;clear hma
    go_upto_region 6 with (go_at_call 90;refine HD.out.mono ?_;rintro e w2 ⟨rfl,b2⟩;have B2:=hide b2;replace u2:=(b2.cell (p:=⟨lg,k*4+2,none⟩) hll).trans u2;clear b2)
    have I2:=hide (H1.out.go B2.out);have M2:=hide (H3.out.go B2.out);have Hw2:=hide (Nat.le_trans Hwr.out B2.out.size);replace u3:=(B2.out.cell (p:=⟨lg,k*4+3,none⟩) hll).trans u3;clear u2
    go_cut [8] (fun s8 wx=>s8=.bool (mayD p u)∧wx=w2)
    case first=>
     cases a1 with
     | true=>
      go_wp2;(try simp only[Exit.then]);(try refine Met.intro ?_)
      first
       | (rename_i hJ hM;refine hM _ _ (Met.intro ?_);refine hJ _ _ ?_)
       | (rename_i hJ;refine hJ _ _ ?_)
       | (rename_i hJ hT;refine hJ _ _ ?_)
       | (rename_i hJ hT hT2;refine hJ _ _ ?_)
       | (rename_i hJ hT hT2 hT3;refine hJ _ _ ?_)
      (repeat apply Exists.intro);exact⟨⟨by rw[HMa.out];rfl,rfl⟩,rfl⟩
     | false=>
      cases a2 with
      | true=>
       go_wp2;(try simp only[Exit.then]);(try refine Met.intro ?_)
       first
        | (rename_i hJ hM;refine hM _ _ (Met.intro ?_);refine hJ _ _ ?_)
        | (rename_i hJ;refine hJ _ _ ?_)
        | (rename_i hJ hT;refine hJ _ _ ?_)
        | (rename_i hJ hT hT2;refine hJ _ _ ?_)
        | (rename_i hJ hT hT2 hT3;refine hJ _ _ ?_)
       (repeat apply Exists.intro);exact⟨⟨by rw[HMa.out];rfl,rfl⟩,rfl⟩
      | false=>
       cases a3 with
       | true=>
        cases a4 with
        | true=>
         cases a5 with
         | true=>
          go_wp2;(try simp only[Exit.then]);(try refine Met.intro ?_)
          first
           | (rename_i hJ hM;refine hM _ _ (Met.intro ?_);refine hJ _ _ ?_)
           | (rename_i hJ;refine hJ _ _ ?_)
           | (rename_i hJ hT;refine hJ _ _ ?_)
           | (rename_i hJ hT hT2;refine hJ _ _ ?_)
           | (rename_i hJ hT hT2 hT3;refine hJ _ _ ?_)
          (repeat apply Exists.intro);exact⟨⟨by rw[HMa.out];rfl,rfl⟩,rfl⟩
         | false=>
          cases a6 with
          | true=>
           go_wp2;(try simp only[Exit.then]);(try refine Met.intro ?_)
           first
            | (rename_i hJ hM;refine hM _ _ (Met.intro ?_);refine hJ _ _ ?_)
            | (rename_i hJ;refine hJ _ _ ?_)
            | (rename_i hJ hT;refine hJ _ _ ?_)
            | (rename_i hJ hT hT2;refine hJ _ _ ?_)
            | (rename_i hJ hT hT2 hT3;refine hJ _ _ ?_)
           (repeat apply Exists.intro);exact⟨⟨by rw[HMa.out];rfl,rfl⟩,rfl⟩
          | false=>
           go_wp2;(try simp only[Exit.then]);(try refine Met.intro ?_)
           first
            | (rename_i hJ hM;refine hM _ _ (Met.intro ?_);refine hJ _ _ ?_)
            | (rename_i hJ;refine hJ _ _ ?_)
            | (rename_i hJ hT;refine hJ _ _ ?_)
            | (rename_i hJ hT hT2;refine hJ _ _ ?_)
            | (rename_i hJ hT hT2 hT3;refine hJ _ _ ?_)
           (repeat apply Exists.intro);exact⟨⟨by rw[HMa.out];rfl,rfl⟩,rfl⟩
        | false=>
         go_wp2;(try simp only[Exit.then]);(try refine Met.intro ?_)
         first
          | (rename_i hJ hM;refine hM _ _ (Met.intro ?_);refine hJ _ _ ?_)
          | (rename_i hJ;refine hJ _ _ ?_)
          | (rename_i hJ hT;refine hJ _ _ ?_)
          | (rename_i hJ hT hT2;refine hJ _ _ ?_)
          | (rename_i hJ hT hT2 hT3;refine hJ _ _ ?_)
         (repeat apply Exists.intro);exact⟨⟨by rw[HMa.out];rfl,rfl⟩,rfl⟩
       | false=>
        cases a4 with
        | true=>
         go_wp2;(try simp only[Exit.then]);(try refine Met.intro ?_)
         first
          | (rename_i hJ hM;refine hM _ _ (Met.intro ?_);refine hJ _ _ ?_)
          | (rename_i hJ;refine hJ _ _ ?_)
          | (rename_i hJ hT;refine hJ _ _ ?_)
          | (rename_i hJ hT hT2;refine hJ _ _ ?_)
          | (rename_i hJ hT hT2 hT3;refine hJ _ _ ?_)
         (repeat apply Exists.intro);exact⟨⟨by rw[HMa.out];rfl,rfl⟩,rfl⟩
        | false=>
         cases a5 with
         | true=>
          go_wp2;(try simp only[Exit.then]);(try refine Met.intro ?_)
          first
           | (rename_i hJ hM;refine hM _ _ (Met.intro ?_);refine hJ _ _ ?_)
           | (rename_i hJ;refine hJ _ _ ?_)
           | (rename_i hJ hT;refine hJ _ _ ?_)
           | (rename_i hJ hT hT2;refine hJ _ _ ?_)
           | (rename_i hJ hT hT2 hT3;refine hJ _ _ ?_)
          (repeat apply Exists.intro);exact⟨⟨by rw[HMa.out];rfl,rfl⟩,rfl⟩
         | false=>
          cases a6 with
          | true=>
           go_wp2;(try simp only[Exit.then]);(try refine Met.intro ?_)
           first
            | (rename_i hJ hM;refine hM _ _ (Met.intro ?_);refine hJ _ _ ?_)
            | (rename_i hJ;refine hJ _ _ ?_)
            | (rename_i hJ hT;refine hJ _ _ ?_)
            | (rename_i hJ hT hT2;refine hJ _ _ ?_)
            | (rename_i hJ hT hT2 hT3;refine hJ _ _ ?_)
           (repeat apply Exists.intro);exact⟨⟨by rw[HMa.out];rfl,rfl⟩,rfl⟩
          | false=>
           go_wp2;(try simp only[Exit.then]);(try refine Met.intro ?_)
           first
            | (rename_i hJ hM;refine hM _ _ (Met.intro ?_);refine hJ _ _ ?_)
            | (rename_i hJ;refine hJ _ _ ?_)
            | (rename_i hJ hT;refine hJ _ _ ?_)
            | (rename_i hJ hT hT2;refine hJ _ _ ?_)
            | (rename_i hJ hT hT2 hT3;refine hJ _ _ ?_)
           (repeat apply Exists.intro);exact⟨⟨by rw[HMa.out];rfl,rfl⟩,rfl⟩
    case rest=>
     obtain⟨rfl,hwc⟩:=hcut;have hwc2:=hwc.symm;clear hwc;subst hwc2;obtain⟨my,hmy⟩:∃my,mayD p u=my:=⟨_,rfl⟩;have HM:=hide hmy;rw[hmy];clear hmy
     cases my with
     | true=>
      have c1:=I2.out.c1;have f1:=I2.out.f1;have hPl:=I2.out.blk.lt;have HX:=hide (Blk.new w2 152 #[.string (bstr p),.string (bstr u)]);obtain⟨m,hm⟩:∃m,(declared st.scope (ss.take k)).length=m:=⟨_,rfl⟩;have OS:=hide I2.out.s;dsimp only at c1 OS;rw[hm] at c1 OS;have Hm:=hide hm;have Hml:=hide (show m≤200000000 by rw[←hm];exact Hdl.out);clear hm
      go_wp2_with (at_builtin;go_loud (refine wpList_append_elem_at (w2.alloc (.cells #[.string (bstr p),.string (bstr u)] 152)) rfl (.tmp 62) (.tmp 66) 77 rfl B 152 _ 2 32 Tryz.underlying77 info_dcl rfl (by omega) (.slice _ m _) m _ rfl (OS.out.alloc _) [.string (bstr p),.string (bstr u)] rfl (two_one _ _) w2.heap.size HX.out rfl (by unfold maxLen;have:=Hml.out;omega) (by have:=Hml.out;omega) (by have:=Hw2.out;simp;omega) ?_);intro g8 cap8 w8 hown8 hgrow8 hlt8;have hm8:MovT B 152 w2 w8:=(MovT.of_below (below_alloc _ _)).trans (.grown hgrow8 fun j hj=>own_isT (OS.out.alloc _) j hj);have q8:w8.cell? ⟨P,1,none⟩=some _:=(hm8.blk I2.out.blk (by decide)).cell 1;have fr8:=(hm8.blk I2.out.blk (by decide)).frozen 1;have HM8:=hide hm8;have HO8:=hide hown8;clear hm8 hown8 hgrow8 hlt8)
      go_roundg (n-(k+1))
      case measure=>have:=Hg.out;omega
      case rel=>
       have hlen:(declared st.scope (ss.take (k+1))).length=m+1:=by rw[HSc.out];simp only[if_true,List.length_append,Hm.out];rfl
       have ho:w8.ownsRow B 152 2 (.slice (some ⟨g8,0,none⟩) (declared st.scope (ss.take (k+1))).length cap8) (declared st.scope (ss.take (k+1))).length (dcls (declared st.scope (ss.take (k+1)))):=by
        rw[hlen,HSc.out];simp only[if_true];rw[dcls_snoc];exact HO8.out
       have hI:=I2.out.setS HM8.out ho;rw[hlen] at hI;rw[show badV (declAt (ss.take k))=badV (declAt (ss.take (k+1))) by rw[HBd.out,HM.out];simp] at hI;exact⟨k+1,_,rfl,by omega,by first|rfl|go_num,hI,(M2.out.trans (.of_movt HM8.out (by simp))).setP (p:=⟨P,1,none⟩) (.inl rfl) _,HAo.out⟩
     | false=>
      have HW:=hide (wrongB_any B P w2 _ _ _ s.at_ 50 I2.out Hw2.out)
      go_wp2_with fail
      refine HW.out.mono ?_;rintro e w3 ⟨vb3,rfl,h1,h2⟩;have I3:=hide h1;have M3:=hide (M2.out.trans (.of_but h2));have Hw3:=hide (Nat.le_trans Hw2.out h2.size);clear h1 h2;have c1:=I3.out.c1;have f1:=I3.out.f1;have hPl:=I3.out.blk.lt;have HX:=hide (Blk.new w3 152 #[.string (bstr p),.string (bstr u)]);obtain⟨m,hm⟩:∃m,(declared st.scope (ss.take k)).length=m:=⟨_,rfl⟩;have OS:=hide I3.out.s;dsimp only at c1 OS;rw[hm] at c1 OS;have Hm:=hide hm;have Hml:=hide (show m≤200000000 by rw[←hm];exact Hdl.out);clear hm
      go_wp2_with (at_builtin;go_loud (refine wpList_append_elem_at (w3.alloc (.cells #[.string (bstr p),.string (bstr u)] 152)) rfl (.tmp 62) (.tmp 66) 77 rfl B 152 _ 2 32 Tryz.underlying77 info_dcl rfl (by omega) (.slice _ m _) m _ rfl (OS.out.alloc _) [.string (bstr p),.string (bstr u)] rfl (two_one _ _) w3.heap.size HX.out rfl (by unfold maxLen;have:=Hml.out;omega) (by have:=Hml.out;omega) (by have:=Hw3.out;simp;omega) ?_);intro g8 cap8 w8 hown8 hgrow8 hlt8;have hm8:MovT B 152 w3 w8:=(MovT.of_below (below_alloc _ _)).trans (.grown hgrow8 fun j hj=>own_isT (OS.out.alloc _) j hj);have q8:w8.cell? ⟨P,1,none⟩=some _:=(hm8.blk I3.out.blk (by decide)).cell 1;have fr8:=(hm8.blk I3.out.blk (by decide)).frozen 1;have HM8:=hide hm8;have HO8:=hide hown8;clear hm8 hown8 hgrow8 hlt8)
      go_roundg (n-(k+1))
      case measure=>have:=Hg.out;omega
      case rel=>
       have hlen:(declared st.scope (ss.take (k+1))).length=m+1:=by rw[HSc.out];simp only[if_true,List.length_append,Hm.out];rfl
       have ho:w8.ownsRow B 152 2 (.slice (some ⟨g8,0,none⟩) (declared st.scope (ss.take (k+1))).length cap8) (declared st.scope (ss.take (k+1))).length (dcls (declared st.scope (ss.take (k+1)))):=by
        rw[hlen,HSc.out];simp only[if_true];rw[dcls_snoc];exact HO8.out
       have hI:=I3.out.setS HM8.out ho;rw[hlen] at hI;rw[show orB (badV (declAt (ss.take k))) s.at_ 50=badV (declAt (ss.take (k+1))) by rw[HBd.out,HM.out,orB_badV];simp] at hI;exact⟨k+1,_,rfl,by omega,by first|rfl|go_num,hI,(M3.out.trans (.of_movt HM8.out (by simp))).setP (p:=⟨P,1,none⟩) (.inl rfl) _,HAo.out⟩
  have hall:k=n:=by omega
  subst hall;have e1:ss.take k=ss:=List.take_of_length_le (by rw[HN.out];exact Nat.le_refl _);have I:=hide H1.out;rw[e1] at I;clear e1;go_wp2;go_end0;exact⟨vr,rfl,I.out,H3.out,HAo.out⟩
end
end Go.Proofs.YtifiiojchlaghaaGreatDoor
