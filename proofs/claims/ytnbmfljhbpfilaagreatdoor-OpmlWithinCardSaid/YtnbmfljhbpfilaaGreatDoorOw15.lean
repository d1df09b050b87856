/- Strict: the program's declares, values, declare. And more. -/
import Derived.Test.YtnbmfljhbpfilaaGreatDoorOw14
import Derived.Deep.DeepCutAuto
set_option linter.unusedSimpArgs false
set_option maxHeartbeats 32000000
set_option linter.unusedVariables false
namespace Go.Proofs.YtnbmfljhbpfilaaGreatDoor
section
open Go.RowKit Tk Sx

structure QR(w:World)(b o:Nat)(s:bS):Prop where
 c0:w.cell? ⟨b,o,none⟩=some (.string (aa s.pre))
 c1:w.cell? ⟨b,o+1,none⟩=some (.string (aa s.loc))
 c2:w.cell? ⟨b,o+2,none⟩=some (.string (aa s.val))
 c3:w.cell? ⟨b,o+3,none⟩=some (.int .i64 (s.at_:Int))
theorem Fp(l:L):(aa l).toList.isEmpty=decide (l=[]):=by rw[ByteArray.toList_eq,aP];cases l<;>simp
theorem DU(l:L):((aa l).toList==([]:L))=decide (l=[]):=kz (aa l) []

theorem RX(s:bS)(w:World)(b o:Nat)(h:QR w b o s):Calls Tryz.prog 92 #[.pointer (some ⟨b,o,none⟩)] w fun e w'=>e=.returned (lO (declares s))∧Below w.heap.size w w':=by
 obtain⟨c0,c1,-,-⟩:=h;have h1:((aa s.pre).toList==[120,109,108,110,115])=decide (s.pre=kI):=kz (aa s.pre) _;have h2:((aa s.loc).toList==[120,109,108,110,115])=decide (s.loc=kI):=kz (aa s.loc) _;have h3:=Fp s.pre;have h4:=DU s.pre;obtain⟨z,hz⟩:∃z,declares s=z:=⟨_,rfl⟩;rw[hz];unfold declares at hz
 by_cases hp:s.pre=kI
 ·have Hr:=hide (show lO z=.tuple #[.string (aa s.loc),.bool true] by rw[←hz,if_pos hp];rfl);rw[decide_eq_true hp] at h1;have h3':(aa s.pre).toList.isEmpty=false:=by rw[h3,hp];rfl
  clear hz hp h2 h3 h4 h3'
  go_enter Tryz.func92,Tryz.ntmps92
  go_wp2;go_ret2;rw[Hr.out];exact⟨rfl,Below.refl _ _⟩
 rw[decide_eq_false hp] at h1;rw[if_neg hp] at hz
 by_cases he:s.pre=[]
 ·have Hr:=hide (show lO z=.tuple #[.string ⟨#[]⟩,.bool (decide (s.loc=kI))] by rw[←hz];unfold lO;simp[he];rfl);rw[decide_eq_true he] at h3 h4;generalize decide (s.loc=kI)=q at *
  have hd:decide ((aa s.pre).toList=[])=true:=by rw[decide_eq_true_iff,←List.isEmpty_iff,h3]
  clear hz hp he
  go_enter Tryz.func92,Tryz.ntmps92
  go_wp2
  go_quiet (fail)
  go_wp2;go_ret2;rw[Hr.out];exact⟨rfl,below_drewN (Below.refl _ _) _⟩
 have Hr:=hide (show lO z=.tuple #[.string ⟨#[]⟩,.bool false] by rw[←hz];unfold lO;simp[he];rfl);rw[decide_eq_false he] at h3 h4;have hd:decide ((aa s.pre).toList=[])=false:=by rw[decide_eq_false_iff_not];intro h;rw[h] at h4;cases h4
 clear hz hp he h2
 go_enter Tryz.func92,Tryz.ntmps92
 go_wp2
 go_quiet (fail)
 go_wp2;go_ret2;rw[Hr.out];exact⟨rfl,below_drewN (Below.refl _ _) _⟩

structure bD(B P:Nat)(T:List Nat)(w w':World):Prop where
 os:w'.os=w.os
 tape:w'.tape=w.tape
 output:w'.output=w.output
 size:w.heap.size≤w'.heap.size
 block:∀k,k<w.heap.size→k≠P→¬(B≤k∧∃t∈T,bO w k t)→w'.heap[k]?=w.heap[k]?
section
variable {B P:Nat} {T:List Nat} {w w1 w':World}
theorem bD.refl(B P:Nat)(T:List Nat)(w:World):bD B P T w w:=⟨rfl,rfl,rfl,Nat.le_refl _,fun _ _ _ _=>rfl⟩
theorem bD.trans(h:bD B P T w w1)(k:bD B P T w1 w'):bD B P T w w':=by
 refine⟨k.os.trans h.os,k.tape.trans h.tape,k.output.trans h.output,Nat.le_trans h.size k.size,fun i hi hb hn=>?_⟩;have e:=h.block i hi hb hn;rw[k.block i (Nat.lt_of_lt_of_le hi h.size) hb ?_,e];rintro ⟨h1,t,ht,h2⟩;exact hn ⟨h1,t,ht,Bu h2 e.symm⟩
theorem bD.bX(h:Below w.heap.size w w'):bD B P T w w':=⟨h.os,h.tape,h.output,h.size,fun k hk _ _=>h.block k hk⟩
theorem bD.eV(h:ag P w w'):bD B P T w w':=⟨h.os,h.tape,h.output,h.size,fun k hk hP _=>h.block k hk hP⟩
theorem bD.Wk{t:Nat}(h:b7 B t w w')(ht:t∈T):bD B P T w w':=⟨h.os,h.tape,h.output,h.size,fun k hk _ hn=>h.block k hk fun hh=>hn ⟨hh.1,t,ht,hh.2⟩⟩
theorem bD.go(h:bD B P T w w1)(k:Below w1.heap.size w1 w'):bD B P T w w':=h.trans (.bX k)
theorem bD.below{C:Nat}(h:bD B P T w w')(hB:C≤B)(hP:C≤P)(hs:C≤w.heap.size):Below C w w':=⟨h.os,h.tape,h.output,h.size,fun k hk=>h.block k (by omega) (by omega) (fun hh=>by omega)⟩
theorem bD.XF(h:bD B P T w w1){p:Addr}(hp:p.block=P∨w.heap.size≤p.block)(u:Value):bD B P T w (w1.setCell p u):=by
 refine⟨h.os,h.tape,h.output,by simpa[World.setCell] using h.size,fun k hk hb hn=>?_⟩;rw[Below.heap_setCell _ _ _ _ (by omega)];exact h.block k hk hb hn
theorem bD.XH(h:bD B P T w w1){p:Addr}{t:Nat}(hp:B≤p.block∧bO w1 p.block t)(ht:t∈T)(u:Value):bD B P T w (w1.setCell p u) :=
 h.trans ⟨rfl,rfl,rfl,by simp[World.setCell],fun k _ _ hn=>Below.heap_setCell _ _ _ _ (by rintro rfl;exact hn ⟨hp.1,t,ht,hp.2⟩)⟩
theorem bD.blk{g t:Nat}{cs:Array Value}(h:bD B P T w w')(hg:ae w g t cs)(hP:g≠P)(ht:t∉T):ae w' g t cs :=
 (h.block g hg.lt hP (fun⟨_,t',qW,h2⟩=>gJ hg.eR h2 (fun e=>ht (by rw[e];exact qW)))).trans hg
theorem bD.own{b e size n t:Nat}{v:Value}{xs:List Value}{cs:Array Value}(h:bD B P T w w')(ho:w.ownsRow b e size v n xs)(hP:ae w P t cs)(hne:e≠t)(ht:e∉T):w'.ownsRow b e size v n xs:=by
 refine⟨ho.1,?_⟩
 rcases ho.2 with hn|⟨g,cap,cur,rfl,jd,dR,rest⟩
 ·exact .inl hn
 refine .inr ⟨g,cap,cur,rfl,jd,(h.block g (Array.getElem?_eq_some_iff.1 dR).1 (fun e1=>?_) (fun⟨_,t',qW,h2⟩=>gJ ⟨cur,_,dR⟩ h2 (fun e1=>ht (by rw[e1];exact qW)))).trans dR,rest⟩;subst e1;exact gJ ⟨cur,_,dR⟩ hP.eR hne
theorem ag.mvs{Z:Nat}(h:ag P w w1)(hZ:w.heap.size≤Z)(k:bD Z P T w1 w'):ag P w w' :=
 ⟨k.os.trans h.os,k.tape.trans h.tape,k.output.trans h.output,Nat.le_trans h.size k.size,fun i hi hP=>(k.block i (Nat.lt_of_lt_of_le hi h.size) hP (fun hh=>by omega)).trans (h.block i hi hP)⟩
theorem aD.ahL(h:bD B P [151] w w'):aD B P w w':=⟨h.os,h.tape,h.output,h.size,fun k hk hP hn=>h.block k hk hP fun hh=>by
 obtain⟨h1,t,ht,h2⟩:=hh;simp only[List.mem_singleton] at ht;subst ht;exact hn ⟨h1,.inr (.inl h2)⟩⟩
theorem PI.far{st:St}{b:bR}{v:Pv}(h:PI B P w st b v){p:Addr}{t:Nat}{cs:Array Value}(hp:ae w p.block t cs)(ht:t∉[77,107,151,50,122,85])(u:Value):PI B P (w.setCell p u) st b v:=by
 have n1:∀{t'},t'∈[77,107,151,50,122,85]→t'≠t:=fun hh e=>ht (by rw[←e];exact hh);have hm:ag p.block w (w.setCell p u):=(ag.refl _ _).setCell (.inl rfl) u;refine⟨h.blk.far (h.blk.FB hp (n1 (by simp))) u,h.bp,dO h.o hp (n1 (by simp)) u,dO h.s hp (n1 (by simp)) u,dO h.e hp (n1 (by simp)) u,h.ev,fun x hx=>?_,?_⟩
 ·have hi:=h.gH x hx
  have sa:∀a,x.A=some a→(w.setCell p u).heap[a.block]?=w.heap[a.block]?:=fun a ha=>hm.block _ (hi.ta a ha).lt fun e=>by
   have:=hi.ta a ha;rw[e] at this;exact gJ this hp.eR (n1 (by simp))
  exact⟨hi.a.same sa hm.size,hi.va,hi.ta.same sa⟩
 have hb:=h.bad;unfold gv at hb ⊢
 cases b with
 | none=>exact hb
 | some x=>
  obtain⟨F,h1,h2,h3⟩:=hb;exact⟨F,h1,h2,h3.far (h3.FB hp (n1 (by simp))) u⟩
end
def cZ(x:Option Nat):bR:=x.map fun a=>(a,50)
theorem FI(x:Option Nat)(a:Nat):yB (cZ x) a 50=cZ (x.or (some a)):=by cases x<;>rfl
theorem amD(l:List At)(a:At):iN (l++[a])=(iN l).or (match value a.value with | .ok _=>none | .error _=>some a.at_):=by
 induction l with
 | nil=>simp only[List.nil_append,iN,Option.none_or];cases value a.value<;>rfl
 | cons x l ih=>
  rw[List.cons_append,iN,iN,ih]
  cases value x.value<;>rfl
theorem ak8(a:At):(eJ a).at_=a.at_:=by unfold eJ;cases split a.name<;>rfl
theorem Cn(s:bS):(tK s).length=4:=rfl
def iM(k:Nat)(ak:List At):List bS:=(ak.take k).map oJ++(ak.drop k).map eJ
theorem YA(k:Nat)(ak:List At):(iM k ak).length=ak.length:=by unfold iM;simp only[List.length_append,List.length_map,List.length_take,List.length_drop];omega
theorem amy{k:Nat}{ak:List At}{a:At}(h:ak[k]?=some a):iM (k+1) ak=(iM k ak).set k (oJ a):=by
 obtain⟨h1,h2⟩:=List.getElem?_eq_some_iff.1 h;have hl:((ak.take k).map oJ).length=k:=by simp;omega
 unfold iM;rw[List.take_succ_eq_append_getElem h1,h2,List.map_append,List.set_append_right _ _ (by omega),hl,Nat.sub_self,List.drop_eq_getElem_cons h1,List.map_cons,List.map_cons,List.set_cons_zero,List.map_nil,List.append_assoc];rfl
theorem ald{k:Nat}{l:List bS}{s:bS}{d:L}(h:l[k]?=some s):(cW l).set (k*4+2) (.string (aa d))=cW (l.set k ⟨s.pre,s.loc,d,s.at_⟩):=by
 obtain⟨h1,h2⟩:=List.getElem?_eq_some_iff.1 h;have e:l=l.take k++s :: l.drop (k+1):=by rw[←h2,←List.drop_eq_getElem_cons h1,List.take_append_drop]
 have hl:(l.take k).length=k:=by rw[List.length_take];omega
 have e2:l.set k ⟨s.pre,s.loc,d,s.at_⟩=l.take k++⟨s.pre,s.loc,d,s.at_⟩ :: l.drop (k+1):=by
  conv=>lhs;rw[e]
  rw[List.set_append_right _ _ (by omega),hl,Nat.sub_self];rfl
 rw[e2]
 conv=>lhs;rw[e]
 unfold cW;rw[List.flatMap_append,List.flatMap_append,List.flatMap_cons,List.flatMap_cons,List.set_append_right _ _ (by rw[uM Cn,hl];omega),uM Cn,hl,Nat.add_sub_cancel_left];rfl

def aby(B P base:Nat)(w:World)(st:St)(v:Pv)(ak:List At)(Al:Option Addr)(cl:Nat)(e:Ending)(w':World):Prop :=
 ∃vb,e=.returned (.tuple #[])∧PI B P w' st (cZ (iN ak)) ⟨v.Ao,v.co,v.As,v.cs,v.Ae,v.ce,vb,v.xs⟩∧w'.ownsRow base 149 4 (.slice Al ak.length cl) ak.length (cW (ak.map oJ))∧bD base P [149] w w'

theorem amG(B P base:Nat)(w:World)(st:St)(v:Pv)(b o:Nat)(ak:List At)(eL Al:Option Addr)(ct cl:Nat)(h:PI B P w st none v)(hB:B≤w.heap.size)(aK:B≤base)
  (hl:w.ownsRow base 149 4 (.slice Al ak.length cl) ak.length (cW (ak.map eJ))) (hb:b<B) (ht:w.cell? ⟨b,o+2,none⟩=some (.slice eL ak.length ct)) (hr:Reads w B 3 eL ak.length (ld (ak.map At.g)))
  (hn:ak.length≤1000000000) (hv:∀a∈ak,a.value.length≤100000) :
  Calls Tryz.prog 56 #[.pointer (some ⟨P,0,none⟩),.pointer (some ⟨b,o,none⟩),.slice Al ak.length cl] w (aby B P base w st v ak Al cl):=by
 have H:=hide h;have HB:=hide hB;have Hv:=hide hv;have Hl:=hide hl;have Hr:=hide hr;obtain⟨n,bz⟩:∃n,ak.length=n:=⟨_,rfl⟩;rw[bz] at ht hn Hl Hr ⊢;have HN:=hide bz;clear h hB hl hr hv bz
 go_enter Tryz.func56,Tryz.ntmps56
 go_wp2
 go_loopg [16] n (fun gk vk wr=>∃(k:Nat) (vb:Value),gk=n-k∧k≤n∧vk=.int .i64 (k:Int)∧PI B P wr st (cZ (iN (ak.take k))) ⟨v.Ao,v.co,v.As,v.cs,v.Ae,v.ce,vb,v.xs⟩∧
  wr.ownsRow base 149 4 (.slice Al n cl) n (cW (iM k ak))∧bD base P [149] w wr)
 case atStart=>exact⟨0,v.vb,rfl,by omega,rfl,H.out,Hl.out,bD.refl _ _ _ _⟩
 case round=>
  obtain⟨k,vb,au,hk,rfl,h1,h2,h3⟩:=hrel;have Hg:=hide au;have H1:=hide h1;have H2:=hide h2;have H3:=hide h3;clear au h1 h2 h3
  by_cases hlt:k<n
  ·obtain⟨a,ha⟩:∃a,ak[k]?=some a:=⟨_,List.getElem?_eq_getElem (by rw[HN.out];exact hlt)⟩;have dW:k<ak.length:=by rw[HN.out];exact hlt
   have mS:=(Hr.out.below (H3.out.below aK H.out.bp HB.out));rw[←HN.out] at mS;rw[show ak.length=(ak.map At.g).length by rw[List.length_map]] at mS;obtain⟨ab,ao,xC,hab,ga⟩:=Reads.ga mS (k:=k) (by rw[List.length_map];exact dW);rw[List.getElem_map,(List.getElem?_eq_some_iff.1 ha).2] at ga;have g0:wr.cell? ⟨ab,ao+k*3,none⟩=some (.string (aa a.name)):=ga.c0;have g1:wr.cell? ⟨ab,ao+k*3+1,none⟩=some (.string (aa a.value)):=ga.c1;have g2:wr.cell? ⟨ab,ao+k*3+2,none⟩=some (.int .i64 (a.at_:Int)):=ga.c2;obtain⟨lg,lc,ko,ki,lz⟩:=H2.out.form (by omega);have qD:Al=some ⟨lg,0,none⟩:=by injection ko
   subst qD;cases ko;subst xC;have vK:IntKind.i64.wrap ((k:Int)+1)=(k:Int)+1:=IntWalk.i64_in _ (by omega)
   have TD:(iM k ak)[k]?=some (eJ a):=by
    unfold iM;have xR:((ak.take k).map oJ).length=k:=by simp;omega
    rw[List.getElem?_append_right (by omega),xR,Nat.sub_self,List.getElem?_map,List.getElem?_drop,Nat.add_zero,ha];rfl
   have iQ:=hide (show cW (iM (k+1) ak)=(cW (iM k ak)).set (k*4+2) (.string (aa (Sx.valOf a))) by rw[ald TD,amy ha,show oJ a=⟨(eJ a).pre,(eJ a).loc,Sx.valOf a,(eJ a).at_⟩ by unfold oJ;rw[ak8]])
   have aU:=hide (show iN (ak.take (k+1))=(iN (ak.take k)).or (match value a.value with | .ok _=>none | .error _=>some a.at_) by
    rw[List.take_succ_eq_append_getElem dW,(List.getElem?_eq_some_iff.1 ha).2,amD])
   have oV:=hide (fun W=>amF a.value W (Hv.out a (List.mem_of_getElem? ha)));have qo:=hide (show B≤wr.heap.size from Nat.le_trans HB.out H3.out.size);have KV:=hide (ae.new wr 147 #[.string (aa a.name),.string (aa a.value),.int .i64 (a.at_:Int)]);have B1:=hide (az wr (.cells #[.string (aa a.name),.string (aa a.value),.int .i64 (a.at_:Int)] 147));have sL:Sx.valOf a=match value a.value with | .ok v=>v | .error _=>[]:=rfl
   clear TD ga mS ha dW
   cases hy:value a.value with
   | ok out=>
    rw[hy] at oV aU sL;dsimp only at aU sL;rw[sL] at iQ;unfold iL at oV;clear hy sL
    go_wp2_with fail
    refine (oV.out _).mono ?_;rintro e w2 ⟨rfl,b2⟩;have B2:=hide (B1.out.trans (b2.mono B1.out.size));have I2:=hide (H1.out.go B2.out);have O2:=hide (eW H2.out B2.out);have M2:=hide (H3.out.go B2.out)
    have bt:∃cs,ae w2 lg 149 cs:=by
     rcases O2.out.2 with ⟨h,_⟩|⟨g',c',cur,h,_,hh,_⟩
     ·cases h
     cases h;exact⟨cur,hh⟩
    obtain⟨cur,bt⟩:=bt;have bM:=hide bt;have s2:w2.cell? ⟨lg,k*4+2,none⟩=(cW (iM k ak))[k*4+2]?:=O2.out.cellAt (k*4+2) (by omega);rw[show (cW (iM k ak))[k*4+2]?=some ((cW (iM k ak))[k*4+2]'(by unfold cW;rw[uM Cn,YA,HN.out];omega)) from List.getElem?_eq_getElem _] at s2;have fr2:=O2.out.frozenAt (k*4+2);clear b2 bt;go_wp2
    go_roundg (n-(k+1))
    case measure=>have:=Hg.out;omega
    case rel=>
     refine⟨k+1,vb,rfl,by omega,by first|rfl|go_num,?_,?_,?_⟩
     ·rw[aU.out,Option.or_none];exact I2.out.far (p:=⟨lg,k*4+2,none⟩) bM.out (by decide) _
     ·rw[iQ.out];exact (O2.out.stored (k*4+2) _).1
     exact M2.out.XH (p:=⟨lg,k*4+2,none⟩) (t:=149) ⟨ki,bM.out.eR⟩ (by simp) _
   | error x=>
    rw[hy] at oV aU sL;dsimp only at aU sL;rw[sL] at iQ;unfold iL at oV;clear hy sL
    go_wp2_with fail
    refine (oV.out _).mono ?_;rintro e w2 ⟨rfl,b2⟩;have B2:=hide (B1.out.trans (b2.mono B1.out.size));have I2:=hide (H1.out.go B2.out);have O2:=hide (eW H2.out B2.out);have M2:=hide (H3.out.go B2.out);have QF:=KV.out.go (b2);have v2:w2.cell? ⟨wr.heap.size,2,none⟩=some (.int .i64 (a.at_:Int)):=QF.cell 2;have HW:=hide (tN B P w2 st _ _ a.at_ 50 I2.out (Nat.le_trans qo.out B2.out.size));have px:=I2.out.blk;clear b2 QF
    go_wp2_with fail
    refine HW.out.mono ?_;rintro e w3 ⟨wu,rfl,h1,h2⟩;have I3:=hide h1;have B3:=hide h2;have O3:=hide (bD.own (B:=0) (T:=[]) (.eV h2) O2.out px (by decide) (by simp));have M3:=hide (M2.out.trans (.eV h2));clear h1 h2 px
    have bt:∃cs,ae w3 lg 149 cs:=by
     rcases O3.out.2 with ⟨h,_⟩|⟨g',c',cur,h,_,hh,_⟩
     ·cases h
     cases h;exact⟨cur,hh⟩
    obtain⟨cur,bt⟩:=bt;have bM:=hide bt;have s2:w3.cell? ⟨lg,k*4+2,none⟩=(cW (iM k ak))[k*4+2]?:=O3.out.cellAt (k*4+2) (by omega);rw[show (cW (iM k ak))[k*4+2]?=some ((cW (iM k ak))[k*4+2]'(by unfold cW;rw[uM Cn,YA,HN.out];omega)) from List.getElem?_eq_getElem _] at s2;have fr2:=O3.out.frozenAt (k*4+2);clear bt;go_wp2
    go_roundg (n-(k+1))
    case measure=>have:=Hg.out;omega
    case rel=>
     refine⟨k+1,wu,rfl,by omega,by first|rfl|go_num,?_,?_,?_⟩
     ·rw[aU.out,←FI];exact I3.out.far (p:=⟨lg,k*4+2,none⟩) bM.out (by decide) _
     ·rw[iQ.out];exact (O3.out.stored (k*4+2) _).1
     exact M3.out.XH (p:=⟨lg,k*4+2,none⟩) (t:=149) ⟨ki,bM.out.eR⟩ (by simp) _
  have hall:k=n:=by omega
  subst hall;have e1:ak.take k=ak:=List.take_of_length_le (by rw[HN.out];exact Nat.le_refl _)
  have e2:iM k ak=ak.map oJ:=by
   unfold iM;rw[e1,List.drop_of_length_le (by rw[HN.out];exact Nat.le_refl _),List.map_nil,List.append_nil]
  have I:=hide H1.out;have O:=hide H2.out;rw[e1] at I;rw[e2] at O;clear e1 e2;go_wp2;go_end0;exact⟨vb,rfl,I.out,by rw[HN.out];exact O.out,H3.out⟩
end
section
open Go.RowKit Tk Sx

theorem ac1(sc:List ax)(l:List bS)(s:bS):declared sc (l++[s])=if (declares s).2 then declared sc l++[⟨(declares s).1,s.val⟩] else declared sc l:=by
 induction l generalizing sc with
 | nil=>simp only[List.nil_append,declared]
 | cons x l ih=>
  rw[List.cons_append,declared,declared];split
  ·exact ih _
  exact ih _
theorem acW(l:List bS)(s:bS):iB (l++[s])=(iB l).or (if (declares s).2 && !vS (declares s).1 s.val then some s.at_ else none):=by
 induction l with
 | nil=>simp only[List.nil_append,iB,Option.none_or]
 | cons x l ih=>
  rw[List.cons_append,iB,iB,ih];split
  ·rfl
  rfl
theorem JD(l:List bS):∀sc:List ax,(declared sc l).length≤sc.length+l.length:=by
 induction l with
 | nil=>intro sc;exact Nat.le_refl _
 | cons x l ih=>
  intro sc;rw[declared];split
  ·have:=ih (sc++[⟨(declares x).1,x.val⟩]);rw[List.length_append] at this;simp at this ⊢;omega
  have:=ih sc;simp;omega
theorem PI.XG{B P:Nat}{w w1:World}{st:St}{b:bR}{v:Pv}{A:Option Addr}{c:Nat}{sc:List ax}(h:PI B P w st b v)(hm:b7 B 151 w w1)(ho:w1.ownsRow B 151 2 (.slice A sc.length c) sc.length (bP sc)) :
  PI B P (w1.setCell ⟨P,1,none⟩ (.slice A sc.length c)) ⟨st.open_,sc,st.evs,st.gu⟩ b ⟨v.Ao,v.co,A,c,v.Ae,v.ce,v.vb,v.xs⟩:=by
 have hb:=hm.blk h.blk (by decide);refine⟨hb.aI 1 _,h.bp,?_,?_,?_,h.ev,?_,?_⟩
 ·exact dO (p:=⟨P,1,none⟩) (hm.own h.o (by decide)) hb (by decide) _
 ·exact dO (p:=⟨P,1,none⟩) ho hb (by decide) _
 ·exact dO (p:=⟨P,1,none⟩) (hm.own h.e (by decide)) hb (by decide) _
 ·intro y hy;have oq:y.In B w1:=(h.gH y hy).tE hm (by decide);exact oq.fM ((aD.refl B P w1).setCell (p:=⟨P,1,none⟩) (.inl rfl) _) (sG oq hb)
 have h1:=h.bad.tE hm (by decide);exact h1.fM ((aD.refl B P w1).setCell (p:=⟨P,1,none⟩) (.inl rfl) _) hb (by decide)
theorem RU(l:List ax)(p u:L):bP (l++[⟨p,u⟩])=bP l++[.string (aa p),.string (aa u)]:=by simp[bP,nQ]
theorem Yp(p u:ByteArray):∀x∈([.string p,.string u]:List Value),x.oneCell'=true:=by
 intro x hx;simp only[List.mem_cons,List.not_mem_nil,or_false] at hx
 rcases hx with rfl|rfl<;>rfl
theorem F4{w:World}{B g c n k:Nat}{l:List bS}{x:bS}(h:w.ownsRow B 149 4 (.slice (some ⟨g,0,none⟩) n c) n (cW l))(hn:l.length=n)(hx:l[k]?=some x):QR w g (k*4) x:=by
 obtain⟨h1,h2⟩:=List.getElem?_eq_some_iff.1 hx
 have hc:∀j,j<4→w.cell? ⟨g,k*4+j,none⟩=(tK x)[j]?:=fun j hj=>by
  rw[h.cellAt (k*4+j) (by omega)];unfold cW;rw[xy Cn l k h1 j hj,h2]
 exact⟨hc 0 (by omega),hc 1 (by omega),hc 2 (by omega),hc 3 (by omega)⟩
def Ze(B P:Nat)(w:World)(st:St)(v:Pv)(ss:List bS)(e:Ending)(w':World):Prop :=
 ∃v',e=.returned (.tuple #[])∧PI B P w' ⟨st.open_,declared st.scope ss,st.evs,st.gu⟩ (cZ (iB ss)) v'∧bD B P [151] w w'∧v'.Ao=v.Ao

theorem acZ(B P base:Nat)(w:World)(st:St)(v:Pv)(ss:List bS)(Al:Option Addr)(cl:Nat)(h:PI B P w st none v)(hB:B≤w.heap.size)
  (hl:w.ownsRow base 149 4 (.slice Al ss.length cl) ss.length (cW ss)) (hn:ss.length≤100000000) (hs:st.scope.length≤100000000) :
  Calls Tryz.prog 57 #[.pointer (some ⟨P,0,none⟩),.slice Al ss.length cl] w (Ze B P w st v ss):=by
 have H:=hide h;have HB:=hide hB;have Hl:=hide hl;have Hs:=hide hs;obtain⟨n,bz⟩:∃n,ss.length=n:=⟨_,rfl⟩;rw[bz] at hn Hl ⊢;have HN:=hide bz;clear h hB hl bz hs
 go_enter Tryz.func57,Tryz.ntmps57
 go_wp2
 go_loopg [11] n (fun gk vk wr=>∃(k:Nat) (vr:Pv),gk=n-k∧k≤n∧vk=.int .i64 (k:Int)∧PI B P wr ⟨st.open_,declared st.scope (ss.take k),st.evs,st.gu⟩ (cZ (iB (ss.take k))) vr∧bD B P [151] w wr∧vr.Ao=v.Ao)
 case atStart=>exact⟨0,v,rfl,by omega,rfl,H.out,bD.refl _ _ _ _,rfl⟩
 case round=>
  obtain⟨k,vr,au,hk,rfl,h1,h3,mR⟩:=hrel;have Hg:=hide au;have H1:=hide h1;have H3:=hide h3;have tS:=hide mR;clear au h1 h3 mR
  by_cases hlt:k<n
  ·obtain⟨s,hs⟩:∃s,ss[k]?=some s:=⟨_,List.getElem?_eq_getElem (by rw[HN.out];exact hlt)⟩;have dW:k<ss.length:=by rw[HN.out];exact hlt
   have O1:=hide (bD.own H3.out Hl.out H.out.blk (by decide) (by decide));obtain⟨lg,lc,ko,ki,lz⟩:=O1.out.form (by omega);have qD:Al=some ⟨lg,0,none⟩:=by injection ko
   subst qD;cases ko;have Sp:=hide (F4 O1.out HN.out hs);have vK:IntKind.i64.wrap ((k:Int)+1)=(k:Int)+1:=IntWalk.i64_in _ (by omega);have gY:ss.take (k+1)=ss.take k++[s]:=by rw[List.take_succ_eq_append_getElem dW,(List.getElem?_eq_some_iff.1 hs).2]
   have br:=hide (show declared st.scope (ss.take (k+1))=if (declares s).2 then declared st.scope (ss.take k)++[⟨(declares s).1,s.val⟩] else declared st.scope (ss.take k) by rw[gY];exact ac1 _ _ _);have aU:=hide (show iB (ss.take (k+1))=(iB (ss.take k)).or (if (declares s).2 && !vS (declares s).1 s.val then some s.at_ else none) by rw[gY];exact acW _ _);have HD:=hide (RX s wr lg (k*4) Sp.out);have qo:=hide (show B≤wr.heap.size from Nat.le_trans HB.out H3.out.size);have r5:=hide (show (declared st.scope (ss.take k)).length≤200000000 by have:=JD (ss.take k) st.scope;rw[List.length_take] at this;have:=Hs.out;omega);have u2:=Sp.out.c2;have u3:=Sp.out.c3;obtain⟨⟨p,is⟩,hd⟩:∃d,declares s=d:=⟨_,rfl⟩;rw[hd] at br aU HD;dsimp only at br aU;unfold lO at HD;dsimp only at HD;obtain⟨u,hu⟩:∃u,s.val=u:=⟨_,rfl⟩;rw[hu] at u2 br aU;clear gY hs dW hd hu
   cases is with
   | false=>
    go_wp2_with fail
    refine HD.out.mono ?_;rintro e w2 ⟨rfl,b2⟩;have I2:=hide (H1.out.go b2);have M2:=hide (H3.out.go b2);clear b2;go_wp2
    go_roundg (n-(k+1))
    case measure=>have:=Hg.out;omega
    case rel=>exact⟨k+1,vr,rfl,by omega,by first|rfl|go_num,by rw[br.out,aU.out];simpa using I2.out,M2.out,tS.out⟩
   | true=>
    have q1:((aa p).toList==[120,109,108,110,115])=decide (p=kI):=kz (aa p) _;have q2:((aa u).toList==[104,116,116,112,58,47,47,119,119,119,46,119,51,46,111,114,103,47,50,48,48,48,47,120,109,108,110,115,47])=decide (u=Gp):=kz (aa u) _;have q3:((aa p).toList==[120,109,108])=decide (p=vU):=kz (aa p) _;have q4:((aa u).toList==[104,116,116,112,58,47,47,119,119,119,46,119,51,46,111,114,103,47,88,77,76,47,49,57,57,56,47,110,97,109,101,115,112,97,99,101])=decide (u=yO):=kz (aa u) _;have q5:=Fp p;have q5':=DU p;have q6:=Fp u;have q6':=DU u;have Li:vS p u=((!decide (p=kI))&&(!decide (u=Gp))&&(decide (p=vU)==decide (u=yO))&&(decide (p=[]) || !decide (u=[]))):=by unfold vS;simp only[decide_not,ne_eq]
    generalize decide (p=kI)=a1 at *
    generalize decide (u=Gp)=a2 at *
    generalize decide (p=vU)=a3 at *
    generalize decide (u=yO)=a4 at *
    generalize decide (p=[])=a5 at *
    generalize decide (u=[])=a6 at *
    have oU:=hide Li;clear Li
    go_upto_region 6 with (go_at_call 92;refine HD.out.mono ?_;rintro e w2 ⟨rfl,b2⟩;have B2:=hide b2;replace u2:=(b2.cell (p:=⟨lg,k*4+2,none⟩) lz).trans u2;clear b2)
    have I2:=hide (H1.out.go B2.out);have M2:=hide (H3.out.go B2.out);have zI:=hide (Nat.le_trans qo.out B2.out.size);replace u3:=(B2.out.cell (p:=⟨lg,k*4+3,none⟩) lz).trans u3;clear u2
    go_cut [8] (fun s8 wx=>s8=.bool (vS p u)∧wx=w2)
    case first=>
     cases a1 with
     | true=>
      go_wp2;(try simp only[Exit.then]);(try refine Met.intro ?_)
      first
       | (rename_i hJ hM;refine hM _ _ (Met.intro ?_);refine hJ _ _ ?_)
       | (rename_i hJ;refine hJ _ _ ?_)
       | (rename_i hJ hT;refine hJ _ _ ?_)
       | (rename_i hJ hT aT;refine hJ _ _ ?_)
       | (rename_i hJ hT aT cB;refine hJ _ _ ?_)
      (repeat apply Exists.intro);exact⟨⟨by rw[oU.out];rfl,rfl⟩,rfl⟩
     | false=>
      cases a2 with
      | true=>
       go_wp2;(try simp only[Exit.then]);(try refine Met.intro ?_)
       first
        | (rename_i hJ hM;refine hM _ _ (Met.intro ?_);refine hJ _ _ ?_)
        | (rename_i hJ;refine hJ _ _ ?_)
        | (rename_i hJ hT;refine hJ _ _ ?_)
        | (rename_i hJ hT aT;refine hJ _ _ ?_)
        | (rename_i hJ hT aT cB;refine hJ _ _ ?_)
       (repeat apply Exists.intro);exact⟨⟨by rw[oU.out];rfl,rfl⟩,rfl⟩
      | false=>
       cases a3 with
       | true=>
        cases a4 with
        | true=>
         cases a5 with
         | true=>
          go_wp2;(try simp only[Exit.then]);(try refine Met.intro ?_)
          first
           | (rename_i hJ hM;refine hM _ _ (Met.intro ?_);refine hJ _ _ ?_)
           | (rename_i hJ;refine hJ _ _ ?_)
           | (rename_i hJ hT;refine hJ _ _ ?_)
           | (rename_i hJ hT aT;refine hJ _ _ ?_)
           | (rename_i hJ hT aT cB;refine hJ _ _ ?_)
          (repeat apply Exists.intro);exact⟨⟨by rw[oU.out];rfl,rfl⟩,rfl⟩
         | false=>
          cases a6 with
          | true=>
           go_wp2;(try simp only[Exit.then]);(try refine Met.intro ?_)
           first
            | (rename_i hJ hM;refine hM _ _ (Met.intro ?_);refine hJ _ _ ?_)
            | (rename_i hJ;refine hJ _ _ ?_)
            | (rename_i hJ hT;refine hJ _ _ ?_)
            | (rename_i hJ hT aT;refine hJ _ _ ?_)
            | (rename_i hJ hT aT cB;refine hJ _ _ ?_)
           (repeat apply Exists.intro);exact⟨⟨by rw[oU.out];rfl,rfl⟩,rfl⟩
          | false=>
           go_wp2;(try simp only[Exit.then]);(try refine Met.intro ?_)
           first
            | (rename_i hJ hM;refine hM _ _ (Met.intro ?_);refine hJ _ _ ?_)
            | (rename_i hJ;refine hJ _ _ ?_)
            | (rename_i hJ hT;refine hJ _ _ ?_)
            | (rename_i hJ hT aT;refine hJ _ _ ?_)
            | (rename_i hJ hT aT cB;refine hJ _ _ ?_)
           (repeat apply Exists.intro);exact⟨⟨by rw[oU.out];rfl,rfl⟩,rfl⟩
        | false=>
         go_wp2;(try simp only[Exit.then]);(try refine Met.intro ?_)
         first
          | (rename_i hJ hM;refine hM _ _ (Met.intro ?_);refine hJ _ _ ?_)
          | (rename_i hJ;refine hJ _ _ ?_)
          | (rename_i hJ hT;refine hJ _ _ ?_)
          | (rename_i hJ hT aT;refine hJ _ _ ?_)
          | (rename_i hJ hT aT cB;refine hJ _ _ ?_)
         (repeat apply Exists.intro);exact⟨⟨by rw[oU.out];rfl,rfl⟩,rfl⟩
       | false=>
        cases a4 with
        | true=>
         go_wp2;(try simp only[Exit.then]);(try refine Met.intro ?_)
         first
          | (rename_i hJ hM;refine hM _ _ (Met.intro ?_);refine hJ _ _ ?_)
          | (rename_i hJ;refine hJ _ _ ?_)
          | (rename_i hJ hT;refine hJ _ _ ?_)
          | (rename_i hJ hT aT;refine hJ _ _ ?_)
          | (rename_i hJ hT aT cB;refine hJ _ _ ?_)
         (repeat apply Exists.intro);exact⟨⟨by rw[oU.out];rfl,rfl⟩,rfl⟩
        | false=>
         cases a5 with
         | true=>
          go_wp2;(try simp only[Exit.then]);(try refine Met.intro ?_)
          first
           | (rename_i hJ hM;refine hM _ _ (Met.intro ?_);refine hJ _ _ ?_)
           | (rename_i hJ;refine hJ _ _ ?_)
           | (rename_i hJ hT;refine hJ _ _ ?_)
           | (rename_i hJ hT aT;refine hJ _ _ ?_)
           | (rename_i hJ hT aT cB;refine hJ _ _ ?_)
          (repeat apply Exists.intro);exact⟨⟨by rw[oU.out];rfl,rfl⟩,rfl⟩
         | false=>
          cases a6 with
          | true=>
           go_wp2;(try simp only[Exit.then]);(try refine Met.intro ?_)
           first
            | (rename_i hJ hM;refine hM _ _ (Met.intro ?_);refine hJ _ _ ?_)
            | (rename_i hJ;refine hJ _ _ ?_)
            | (rename_i hJ hT;refine hJ _ _ ?_)
            | (rename_i hJ hT aT;refine hJ _ _ ?_)
            | (rename_i hJ hT aT cB;refine hJ _ _ ?_)
           (repeat apply Exists.intro);exact⟨⟨by rw[oU.out];rfl,rfl⟩,rfl⟩
          | false=>
           go_wp2;(try simp only[Exit.then]);(try refine Met.intro ?_)
           first
            | (rename_i hJ hM;refine hM _ _ (Met.intro ?_);refine hJ _ _ ?_)
            | (rename_i hJ;refine hJ _ _ ?_)
            | (rename_i hJ hT;refine hJ _ _ ?_)
            | (rename_i hJ hT aT;refine hJ _ _ ?_)
            | (rename_i hJ hT aT cB;refine hJ _ _ ?_)
           (repeat apply Exists.intro);exact⟨⟨by rw[oU.out];rfl,rfl⟩,rfl⟩
    case rest=>
     obtain⟨rfl,hwc⟩:=hcut;have af5:=hwc.symm;clear hwc;subst af5;obtain⟨my,fZ⟩:∃my,vS p u=my:=⟨_,rfl⟩;have HM:=hide fZ;rw[fZ];clear fZ
     cases my with
     | true=>
      have c1:=I2.out.c1;have f1:=I2.out.f1;have px:=I2.out.blk.lt;have HX:=hide (ae.new w2 151 #[.string (aa p),.string (aa u)]);obtain⟨m,hm⟩:∃m,(declared st.scope (ss.take k)).length=m:=⟨_,rfl⟩;have OS:=hide I2.out.s;dsimp only at c1 OS;rw[hm] at c1 OS;have Hm:=hide hm;have fS:=hide (show m≤200000000 by rw[←hm];exact r5.out);clear hm
      go_wp2_with (at_builtin;go_loud (refine wA (w2.alloc (.cells #[.string (aa p),.string (aa u)] 151)) rfl (.tmp 62) (.tmp 66) 74 rfl B 151 _ 2 32 Tryz.underlying74 Vn rfl (by omega) (.slice _ m _) m _ rfl (OS.out.alloc _) [.string (aa p),.string (aa u)] rfl (Yp _ _) w2.heap.size HX.out rfl (by unfold maxLen;have:=fS.out;omega) (by have:=fS.out;omega) (by have:=zI.out;simp;omega) ?_);intro g8 dw w8 aM aF dc;have qM:b7 B 151 w2 w8:=(b7.bX (az _ _)).trans (.grown aF fun j hj=>aG (OS.out.alloc _) j hj);have q8:w8.cell? ⟨P,1,none⟩=some _:=(qM.blk I2.out.blk (by decide)).cell 1;have fr8:=(qM.blk I2.out.blk (by decide)).frozen 1;have zh:=hide qM;have cX:=hide aM;clear qM aM aF dc)
      go_roundg (n-(k+1))
      case measure=>have:=Hg.out;omega
      case rel=>
       have hlen:(declared st.scope (ss.take (k+1))).length=m+1:=by rw[br.out];simp only[if_true,List.length_append,Hm.out];rfl
       have ho:w8.ownsRow B 151 2 (.slice (some ⟨g8,0,none⟩) (declared st.scope (ss.take (k+1))).length dw) (declared st.scope (ss.take (k+1))).length (bP (declared st.scope (ss.take (k+1)))):=by
        rw[hlen,br.out];simp only[if_true];rw[RU];exact cX.out
       have hI:=I2.out.XG zh.out ho;rw[hlen] at hI;rw[show cZ (iB (ss.take k))=cZ (iB (ss.take (k+1))) by rw[aU.out,HM.out];simp] at hI;exact⟨k+1,_,rfl,by omega,by first|rfl|go_num,hI,(M2.out.trans (.Wk zh.out (by simp))).XF (p:=⟨P,1,none⟩) (.inl rfl) _,tS.out⟩
     | false=>
      have HW:=hide (tN B P w2 _ _ _ s.at_ 50 I2.out zI.out)
      go_wp2_with fail
      refine HW.out.mono ?_;rintro e w3 ⟨wu,rfl,h1,h2⟩;have I3:=hide h1;have M3:=hide (M2.out.trans (.eV h2));have Dh:=hide (Nat.le_trans zI.out h2.size);clear h1 h2;have c1:=I3.out.c1;have f1:=I3.out.f1;have px:=I3.out.blk.lt;have HX:=hide (ae.new w3 151 #[.string (aa p),.string (aa u)]);obtain⟨m,hm⟩:∃m,(declared st.scope (ss.take k)).length=m:=⟨_,rfl⟩;have OS:=hide I3.out.s;dsimp only at c1 OS;rw[hm] at c1 OS;have Hm:=hide hm;have fS:=hide (show m≤200000000 by rw[←hm];exact r5.out);clear hm
      go_wp2_with (at_builtin;go_loud (refine wA (w3.alloc (.cells #[.string (aa p),.string (aa u)] 151)) rfl (.tmp 62) (.tmp 66) 74 rfl B 151 _ 2 32 Tryz.underlying74 Vn rfl (by omega) (.slice _ m _) m _ rfl (OS.out.alloc _) [.string (aa p),.string (aa u)] rfl (Yp _ _) w3.heap.size HX.out rfl (by unfold maxLen;have:=fS.out;omega) (by have:=fS.out;omega) (by have:=Dh.out;simp;omega) ?_);intro g8 dw w8 aM aF dc;have qM:b7 B 151 w3 w8:=(b7.bX (az _ _)).trans (.grown aF fun j hj=>aG (OS.out.alloc _) j hj);have q8:w8.cell? ⟨P,1,none⟩=some _:=(qM.blk I3.out.blk (by decide)).cell 1;have fr8:=(qM.blk I3.out.blk (by decide)).frozen 1;have zh:=hide qM;have cX:=hide aM;clear qM aM aF dc)
      go_roundg (n-(k+1))
      case measure=>have:=Hg.out;omega
      case rel=>
       have hlen:(declared st.scope (ss.take (k+1))).length=m+1:=by rw[br.out];simp only[if_true,List.length_append,Hm.out];rfl
       have ho:w8.ownsRow B 151 2 (.slice (some ⟨g8,0,none⟩) (declared st.scope (ss.take (k+1))).length dw) (declared st.scope (ss.take (k+1))).length (bP (declared st.scope (ss.take (k+1)))):=by
        rw[hlen,br.out];simp only[if_true];rw[RU];exact cX.out
       have hI:=I3.out.XG zh.out ho;rw[hlen] at hI;rw[show yB (cZ (iB (ss.take k))) s.at_ 50=cZ (iB (ss.take (k+1))) by rw[aU.out,HM.out,FI];simp] at hI;exact⟨k+1,_,rfl,by omega,by first|rfl|go_num,hI,(M3.out.trans (.Wk zh.out (by simp))).XF (p:=⟨P,1,none⟩) (.inl rfl) _,tS.out⟩
  have hall:k=n:=by omega
  subst hall;have e1:ss.take k=ss:=List.take_of_length_le (by rw[HN.out];exact Nat.le_refl _);have I:=hide H1.out;rw[e1] at I;clear e1;go_wp2;go_end0;exact⟨vr,rfl,I.out,H3.out,tS.out⟩
end
end Go.Proofs.YtnbmfljhbpfilaaGreatDoor
