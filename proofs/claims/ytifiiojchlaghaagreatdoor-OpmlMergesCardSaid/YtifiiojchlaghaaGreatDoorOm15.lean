/- Strict: the program's declares, values, declare. And more. -/
import Derived.Test.YtifiiojchlaghaaGreatDoorOm14
import Derived.Deep.DeepCutAuto
set_option linter.unusedSimpArgs false
set_option maxHeartbeats 32000000
set_option linter.unusedVariables false
namespace Go.Proofs.YtifiiojchlaghaaGreatDoor
section
open Go.RowKit Tk Sx

structure PN(w:World)(b o:Nat)(s:bR):Prop where
 c0:w.cell? ⟨b,o,none⟩=some (.string (aa s.pre))
 c1:w.cell? ⟨b,o+1,none⟩=some (.string (aa s.loc))
 c2:w.cell? ⟨b,o+2,none⟩=some (.string (aa s.val))
 c3:w.cell? ⟨b,o+3,none⟩=some (.int .i64 (s.at_:Int))
theorem EZ(l:L):(aa l).toList.isEmpty=decide (l=[]):=by rw[ByteArray.toList_eq,bg];cases l<;>simp
theorem Dz(l:L):((aa l).toList==([]:L))=decide (l=[]):=kI (aa l) []

theorem QK(s:bR)(w:World)(b o:Nat)(h:PN w b o s):Calls Tryz.prog 90 #[.pointer (some ⟨b,o,none⟩)] w fun e w'=>e=.returned (lS (declares s))∧Below w.heap.size w w':=by
 obtain⟨c0,c1,-,-⟩:=h;have h1:((aa s.pre).toList==[120,109,108,110,115])=decide (s.pre=kO):=kI (aa s.pre) _;have h2:((aa s.loc).toList==[120,109,108,110,115])=decide (s.loc=kO):=kI (aa s.loc) _;have h3:=EZ s.pre;have h4:=Dz s.pre;obtain⟨z,hz⟩:∃z,declares s=z:=⟨_,rfl⟩;rw[hz];unfold declares at hz
 by_cases hp:s.pre=kO
 ·have Hr:=hide (show lS z=.tuple #[.string (aa s.loc),.bool true] by rw[←hz,if_pos hp];rfl);rw[decide_eq_true hp] at h1;have h3':(aa s.pre).toList.isEmpty=false:=by rw[h3,hp];rfl
  clear hz hp h2 h3 h4 h3'
  go_enter Tryz.func90,Tryz.ntmps90
  go_wp2;go_ret2;rw[Hr.out];exact⟨rfl,Below.refl _ _⟩
 rw[decide_eq_false hp] at h1;rw[if_neg hp] at hz
 by_cases he:s.pre=[]
 ·have Hr:=hide (show lS z=.tuple #[.string ⟨#[]⟩,.bool (decide (s.loc=kO))] by rw[←hz];unfold lS;simp[he];rfl);rw[decide_eq_true he] at h3 h4;generalize decide (s.loc=kO)=q at *
  have hd:decide ((aa s.pre).toList=[])=true:=by rw[decide_eq_true_iff,←List.isEmpty_iff,h3]
  clear hz hp he
  go_enter Tryz.func90,Tryz.ntmps90
  go_wp2
  go_quiet (fail)
  go_wp2;go_ret2;rw[Hr.out];exact⟨rfl,below_drewN (Below.refl _ _) _⟩
 have Hr:=hide (show lS z=.tuple #[.string ⟨#[]⟩,.bool false] by rw[←hz];unfold lS;simp[he];rfl);rw[decide_eq_false he] at h3 h4;have hd:decide ((aa s.pre).toList=[])=false:=by rw[decide_eq_false_iff_not];intro h;rw[h] at h4;cases h4
 clear hz hp he h2
 go_enter Tryz.func90,Tryz.ntmps90
 go_wp2
 go_quiet (fail)
 go_wp2;go_ret2;rw[Hr.out];exact⟨rfl,below_drewN (Below.refl _ _) _⟩

structure bw(B P:Nat)(T:List Nat)(w w':World):Prop where
 os:w'.os=w.os
 tape:w'.tape=w.tape
 output:w'.output=w.output
 size:w.heap.size≤w'.heap.size
 block:∀k,k<w.heap.size→k≠P→¬(B≤k∧∃t∈T,bJ w k t)→w'.heap[k]?=w.heap[k]?
section
variable {B P:Nat} {T:List Nat} {w w1 w':World}
theorem bw.refl(B P:Nat)(T:List Nat)(w:World):bw B P T w w:=⟨rfl,rfl,rfl,Nat.le_refl _,fun _ _ _ _=>rfl⟩
theorem bw.trans(h:bw B P T w w1)(k:bw B P T w1 w'):bw B P T w w':=by
 refine⟨k.os.trans h.os,k.tape.trans h.tape,k.output.trans h.output,Nat.le_trans h.size k.size,fun i hi hb hn=>?_⟩;have e:=h.block i hi hb hn;rw[k.block i (Nat.lt_of_lt_of_le hi h.size) hb ?_,e];rintro ⟨h1,t,ht,h2⟩;exact hn ⟨h1,t,ht,Bl h2 e.symm⟩
theorem bw.b7(h:Below w.heap.size w w'):bw B P T w w':=⟨h.os,h.tape,h.output,h.size,fun k hk _ _=>h.block k hk⟩
theorem bw.fc(h:ai P w w'):bw B P T w w':=⟨h.os,h.tape,h.output,h.size,fun k hk hP _=>h.block k hk hP⟩
theorem bw.U3{t:Nat}(h:cg B t w w')(ht:t∈T):bw B P T w w':=⟨h.os,h.tape,h.output,h.size,fun k hk _ hn=>h.block k hk fun hh=>hn ⟨hh.1,t,ht,hh.2⟩⟩
theorem bw.go(h:bw B P T w w1)(k:Below w1.heap.size w1 w'):bw B P T w w':=h.trans (.b7 k)
theorem bw.below{C:Nat}(h:bw B P T w w')(hB:C≤B)(hP:C≤P)(hs:C≤w.heap.size):Below C w w':=⟨h.os,h.tape,h.output,h.size,fun k hk=>h.block k (by omega) (by omega) (fun hh=>by omega)⟩
theorem bw.Wi(h:bw B P T w w1){p:Addr}(hp:p.block=P∨w.heap.size≤p.block)(u:Value):bw B P T w (w1.setCell p u):=by
 refine⟨h.os,h.tape,h.output,by simpa[World.setCell] using h.size,fun k hk hb hn=>?_⟩;rw[Below.heap_setCell _ _ _ _ (by omega)];exact h.block k hk hb hn
theorem bw.Wk(h:bw B P T w w1){p:Addr}{t:Nat}(hp:B≤p.block∧bJ w1 p.block t)(ht:t∈T)(u:Value):bw B P T w (w1.setCell p u) :=
 h.trans ⟨rfl,rfl,rfl,by simp[World.setCell],fun k _ _ hn=>Below.heap_setCell _ _ _ _ (by rintro rfl;exact hn ⟨hp.1,t,ht,hp.2⟩)⟩
theorem bw.blk{g t:Nat}{cs:Array Value}(h:bw B P T w w')(hg:ae w g t cs)(hP:g≠P)(ht:t∉T):ae w' g t cs :=
 (h.block g hg.lt hP (fun⟨_,t',oJ,h2⟩=>gI hg.ft h2 (fun e=>ht (by rw[e];exact oJ)))).trans hg
theorem bw.own{b e size n t:Nat}{v:Value}{xs:List Value}{cs:Array Value}(h:bw B P T w w')(ho:w.ownsRow b e size v n xs)(hP:ae w P t cs)(hne:e≠t)(ht:e∉T):w'.ownsRow b e size v n xs:=by
 refine⟨ho.1,?_⟩
 rcases ho.2 with hn|⟨g,cap,cur,rfl,jo,et,rest⟩
 ·exact .inl hn
 refine .inr ⟨g,cap,cur,rfl,jo,(h.block g (Array.getElem?_eq_some_iff.1 et).1 (fun e1=>?_) (fun⟨_,t',oJ,h2⟩=>gI ⟨cur,_,et⟩ h2 (fun e1=>ht (by rw[e1];exact oJ)))).trans et,rest⟩;subst e1;exact gI ⟨cur,_,et⟩ hP.ft hne
theorem ai.mvs{Z:Nat}(h:ai P w w1)(hZ:w.heap.size≤Z)(k:bw Z P T w1 w'):ai P w w' :=
 ⟨k.os.trans h.os,k.tape.trans h.tape,k.output.trans h.output,Nat.le_trans h.size k.size,fun i hi hP=>(k.block i (Nat.lt_of_lt_of_le hi h.size) hP (fun hh=>by omega)).trans (h.block i hi hP)⟩
theorem aH.af3(h:bw B P [152] w w'):aH B P w w':=⟨h.os,h.tape,h.output,h.size,fun k hk hP hn=>h.block k hk hP fun hh=>by
 obtain⟨h1,t,ht,h2⟩:=hh;simp only[List.mem_singleton] at ht;subst ht;exact hn ⟨h1,.inr (.inl h2)⟩⟩
theorem PI.far{st:St}{b:bQ}{v:Pv}(h:PI B P w st b v){p:Addr}{t:Nat}{cs:Array Value}(hp:ae w p.block t cs)(ht:t∉[80,110,152,62,125,88])(u:Value):PI B P (w.setCell p u) st b v:=by
 have n1:∀{t'},t'∈[80,110,152,62,125,88]→t'≠t:=fun hh e=>ht (by rw[←e];exact hh);have hm:ai p.block w (w.setCell p u):=(ai.refl _ _).setCell (.inl rfl) u;refine⟨h.blk.far (h.blk.E9 hp (n1 (by simp))) u,h.bp,dX h.o hp (n1 (by simp)) u,dX h.s hp (n1 (by simp)) u,dX h.e hp (n1 (by simp)) u,h.ev,fun x hx=>?_,?_⟩
 ·have hi:=h.gX x hx
  have sa:∀a,x.A=some a→(w.setCell p u).heap[a.block]?=w.heap[a.block]?:=fun a ha=>hm.block _ (hi.ta a ha).lt fun e=>by
   have:=hi.ta a ha;rw[e] at this;exact gI this hp.ft (n1 (by simp))
  exact⟨hi.a.same sa hm.size,hi.va,hi.ta.same sa⟩
 have hb:=h.bad;unfold gN at hb ⊢
 cases b with
 | none=>exact hb
 | some x=>
  obtain⟨F,h1,h2,h3⟩:=hb;exact⟨F,h1,h2,h3.far (h3.E9 hp (n1 (by simp))) u⟩
end
def dv(x:Option Nat):bQ:=x.map fun a=>(a,50)
theorem BC(x:Option Nat)(a:Nat):ym (dv x) a 50=dv (x.or (some a)):=by cases x<;>rfl
theorem akA(l:List At)(a:At):jT (l++[a])=(jT l).or (match value a.value with | .ok _=>none | .error _=>some a.at_):=by
 induction l with
 | nil=>simp only[List.nil_append,jT,Option.none_or];cases value a.value<;>rfl
 | cons x l ih=>
  rw[List.cons_append,jT,jT,ih]
  cases value x.value<;>rfl
theorem aje(a:At):(dm a).at_=a.at_:=by unfold dm;cases split a.name<;>rfl
theorem BV(s:bR):(rV s).length=4:=rfl
def iX(k:Nat)(aw:List At):List bR:=(aw.take k).map rY++(aw.drop k).map dm
theorem Xi(k:Nat)(aw:List At):(iX k aw).length=aw.length:=by unfold iX;simp only[List.length_append,List.length_map,List.length_take,List.length_drop];omega
theorem akx{k:Nat}{aw:List At}{a:At}(h:aw[k]?=some a):iX (k+1) aw=(iX k aw).set k (rY a):=by
 obtain⟨h1,h2⟩:=List.getElem?_eq_some_iff.1 h;have hl:((aw.take k).map rY).length=k:=by simp;omega
 unfold iX;rw[List.take_succ_eq_append_getElem h1,h2,List.map_append,List.set_append_right _ _ (by omega),hl,Nat.sub_self,List.drop_eq_getElem_cons h1,List.map_cons,List.map_cons,List.set_cons_zero,List.map_nil,List.append_assoc];rfl
theorem ajj{k:Nat}{l:List bR}{s:bR}{d:L}(h:l[k]?=some s):(bP l).set (k*4+2) (.string (aa d))=bP (l.set k ⟨s.pre,s.loc,d,s.at_⟩):=by
 obtain⟨h1,h2⟩:=List.getElem?_eq_some_iff.1 h;have e:l=l.take k++s :: l.drop (k+1):=by rw[←h2,←List.drop_eq_getElem_cons h1,List.take_append_drop]
 have hl:(l.take k).length=k:=by rw[List.length_take];omega
 have e2:l.set k ⟨s.pre,s.loc,d,s.at_⟩=l.take k++⟨s.pre,s.loc,d,s.at_⟩ :: l.drop (k+1):=by
  conv=>lhs;rw[e]
  rw[List.set_append_right _ _ (by omega),hl,Nat.sub_self];rfl
 rw[e2]
 conv=>lhs;rw[e]
 unfold bP;rw[List.flatMap_append,List.flatMap_append,List.flatMap_cons,List.flatMap_cons,List.set_append_right _ _ (by rw[uU BV,hl];omega),uU BV,hl,Nat.add_sub_cancel_left];rfl

def Z7(B P base:Nat)(w:World)(st:St)(v:Pv)(aw:List At)(Al:Option Addr)(cl:Nat)(e:Ending)(w':World):Prop :=
 ∃vb,e=.returned (.tuple #[])∧PI B P w' st (dv (jT aw)) ⟨v.Ao,v.co,v.As,v.cs,v.Ae,v.ce,vb,v.xs⟩∧w'.ownsRow base 150 4 (.slice Al aw.length cl) aw.length (bP (aw.map rY))∧bw base P [150] w w'

theorem akD(B P base:Nat)(w:World)(st:St)(v:Pv)(b o:Nat)(aw:List At)(fe Al:Option Addr)(ct cl:Nat)(h:PI B P w st none v)(hB:B≤w.heap.size)(aM:B≤base)
  (hl:w.ownsRow base 150 4 (.slice Al aw.length cl) aw.length (bP (aw.map dm))) (hb:b<B) (ht:w.cell? ⟨b,o+2,none⟩=some (.slice fe aw.length ct)) (hr:Reads w B 3 fe aw.length (ln (aw.map At.g)))
  (hn:aw.length≤1000000000) (hv:∀a∈aw,a.value.length≤100000) :
  Calls Tryz.prog 57 #[.pointer (some ⟨P,0,none⟩),.pointer (some ⟨b,o,none⟩),.slice Al aw.length cl] w (Z7 B P base w st v aw Al cl):=by
 have H:=hide h;have HB:=hide hB;have Hv:=hide hv;have Hl:=hide hl;have Hr:=hide hr;obtain⟨n,bC⟩:∃n,aw.length=n:=⟨_,rfl⟩;rw[bC] at ht hn Hl Hr ⊢;have HN:=hide bC;clear h hB hl hr hv bC
 go_enter Tryz.func57,Tryz.ntmps57
 go_wp2
 go_loopg [16] n (fun gk vk wr=>∃(k:Nat) (vb:Value),gk=n-k∧k≤n∧vk=.int .i64 (k:Int)∧PI B P wr st (dv (jT (aw.take k))) ⟨v.Ao,v.co,v.As,v.cs,v.Ae,v.ce,vb,v.xs⟩∧
  wr.ownsRow base 150 4 (.slice Al n cl) n (bP (iX k aw))∧bw base P [150] w wr)
 case atStart=>exact⟨0,v.vb,rfl,by omega,rfl,H.out,Hl.out,bw.refl _ _ _ _⟩
 case round=>
  obtain⟨k,vb,aq,hk,rfl,h1,h2,h3⟩:=hrel;have Hg:=hide aq;have H1:=hide h1;have H2:=hide h2;have H3:=hide h3;clear aq h1 h2 h3
  by_cases hlt:k<n
  ·obtain⟨a,ha⟩:∃a,aw[k]?=some a:=⟨_,List.getElem?_eq_getElem (by rw[HN.out];exact hlt)⟩;have eE:k<aw.length:=by rw[HN.out];exact hlt
   have nd:=(Hr.out.below (H3.out.below aM H.out.bp HB.out));rw[←HN.out] at nd;rw[show aw.length=(aw.map At.g).length by rw[List.length_map]] at nd;obtain⟨ab,ao,xq,hab,ga⟩:=Reads.ga nd (k:=k) (by rw[List.length_map];exact eE);rw[List.getElem_map,(List.getElem?_eq_some_iff.1 ha).2] at ga;have g0:wr.cell? ⟨ab,ao+k*3,none⟩=some (.string (aa a.name)):=ga.c0;have g1:wr.cell? ⟨ab,ao+k*3+1,none⟩=some (.string (aa a.value)):=ga.c1;have g2:wr.cell? ⟨ab,ao+k*3+2,none⟩=some (.int .i64 (a.at_:Int)):=ga.c2;obtain⟨lg,lc,kB,eP,lF⟩:=H2.out.form (by omega);have mm:Al=some ⟨lg,0,none⟩:=by injection kB
   subst mm;cases kB;subst xq;have vP:IntKind.i64.wrap ((k:Int)+1)=(k:Int)+1:=IntWalk.i64_in _ (by omega)
   have RZ:(iX k aw)[k]?=some (dm a):=by
    unfold iX;have xK:((aw.take k).map rY).length=k:=by simp;omega
    rw[List.getElem?_append_right (by omega),xK,Nat.sub_self,List.getElem?_map,List.getElem?_drop,Nat.add_zero,ha];rfl
   have jb:=hide (show bP (iX (k+1) aw)=(bP (iX k aw)).set (k*4+2) (.string (aa (Sx.valOf a))) by rw[ajj RZ,akx ha,show rY a=⟨(dm a).pre,(dm a).loc,Sx.valOf a,(dm a).at_⟩ by unfold rY;rw[aje]])
   have a8:=hide (show jT (aw.take (k+1))=(jT (aw.take k)).or (match value a.value with | .ok _=>none | .error _=>some a.at_) by
    rw[List.take_succ_eq_append_getElem eE,(List.getElem?_eq_some_iff.1 ha).2,akA])
   have pA:=hide (fun W=>akB a.value W (Hv.out a (List.mem_of_getElem? ha)));have mg:=hide (show B≤wr.heap.size from Nat.le_trans HB.out H3.out.size);have KV:=hide (ae.new wr 148 #[.string (aa a.name),.string (aa a.value),.int .i64 (a.at_:Int)]);have B1:=hide (aA wr (.cells #[.string (aa a.name),.string (aa a.value),.int .i64 (a.at_:Int)] 148));have sX:Sx.valOf a=match value a.value with | .ok v=>v | .error _=>[]:=rfl
   clear RZ ga nd ha eE
   cases hy:value a.value with
   | ok out=>
    rw[hy] at pA a8 sX;dsimp only at a8 sX;rw[sX] at jb;unfold iW at pA;clear hy sX
    go_wp2_with fail
    refine (pA.out _).mono ?_;rintro e w2 ⟨rfl,b2⟩;have B2:=hide (B1.out.trans (b2.mono B1.out.size));have I2:=hide (H1.out.go B2.out);have O2:=hide (eV H2.out B2.out);have M2:=hide (H3.out.go B2.out)
    have aP:∃cs,ae w2 lg 150 cs:=by
     rcases O2.out.2 with ⟨h,_⟩|⟨g',c',cur,h,_,hh,_⟩
     ·cases h
     cases h;exact⟨cur,hh⟩
    obtain⟨cur,aP⟩:=aP;have ak:=hide aP;have s2:w2.cell? ⟨lg,k*4+2,none⟩=(bP (iX k aw))[k*4+2]?:=O2.out.cellAt (k*4+2) (by omega);rw[show (bP (iX k aw))[k*4+2]?=some ((bP (iX k aw))[k*4+2]'(by unfold bP;rw[uU BV,Xi,HN.out];omega)) from List.getElem?_eq_getElem _] at s2;have fr2:=O2.out.frozenAt (k*4+2);clear b2 aP;go_wp2
    go_roundg (n-(k+1))
    case measure=>have:=Hg.out;omega
    case rel=>
     refine⟨k+1,vb,rfl,by omega,by first|rfl|go_num,?_,?_,?_⟩
     ·rw[a8.out,Option.or_none];exact I2.out.far (p:=⟨lg,k*4+2,none⟩) ak.out (by decide) _
     ·rw[jb.out];exact (O2.out.stored (k*4+2) _).1
     exact M2.out.Wk (p:=⟨lg,k*4+2,none⟩) (t:=150) ⟨eP,ak.out.ft⟩ (by simp) _
   | error x=>
    rw[hy] at pA a8 sX;dsimp only at a8 sX;rw[sX] at jb;unfold iW at pA;clear hy sX
    go_wp2_with fail
    refine (pA.out _).mono ?_;rintro e w2 ⟨rfl,b2⟩;have B2:=hide (B1.out.trans (b2.mono B1.out.size));have I2:=hide (H1.out.go B2.out);have O2:=hide (eV H2.out B2.out);have M2:=hide (H3.out.go B2.out);have Pw:=KV.out.go (b2);have v2:w2.cell? ⟨wr.heap.size,2,none⟩=some (.int .i64 (a.at_:Int)):=Pw.cell 2;have HW:=hide (r7 B P w2 st _ _ a.at_ 50 I2.out (Nat.le_trans mg.out B2.out.size));have pJ:=I2.out.blk;clear b2 Pw
    go_wp2_with fail
    refine HW.out.mono ?_;rintro e w3 ⟨wA,rfl,h1,h2⟩;have I3:=hide h1;have B3:=hide h2;have O3:=hide (bw.own (B:=0) (T:=[]) (.fc h2) O2.out pJ (by decide) (by simp));have M3:=hide (M2.out.trans (.fc h2));clear h1 h2 pJ
    have aP:∃cs,ae w3 lg 150 cs:=by
     rcases O3.out.2 with ⟨h,_⟩|⟨g',c',cur,h,_,hh,_⟩
     ·cases h
     cases h;exact⟨cur,hh⟩
    obtain⟨cur,aP⟩:=aP;have ak:=hide aP;have s2:w3.cell? ⟨lg,k*4+2,none⟩=(bP (iX k aw))[k*4+2]?:=O3.out.cellAt (k*4+2) (by omega);rw[show (bP (iX k aw))[k*4+2]?=some ((bP (iX k aw))[k*4+2]'(by unfold bP;rw[uU BV,Xi,HN.out];omega)) from List.getElem?_eq_getElem _] at s2;have fr2:=O3.out.frozenAt (k*4+2);clear aP;go_wp2
    go_roundg (n-(k+1))
    case measure=>have:=Hg.out;omega
    case rel=>
     refine⟨k+1,wA,rfl,by omega,by first|rfl|go_num,?_,?_,?_⟩
     ·rw[a8.out,←BC];exact I3.out.far (p:=⟨lg,k*4+2,none⟩) ak.out (by decide) _
     ·rw[jb.out];exact (O3.out.stored (k*4+2) _).1
     exact M3.out.Wk (p:=⟨lg,k*4+2,none⟩) (t:=150) ⟨eP,ak.out.ft⟩ (by simp) _
  have hall:k=n:=by omega
  subst hall;have e1:aw.take k=aw:=List.take_of_length_le (by rw[HN.out];exact Nat.le_refl _)
  have e2:iX k aw=aw.map rY:=by
   unfold iX;rw[e1,List.drop_of_length_le (by rw[HN.out];exact Nat.le_refl _),List.map_nil,List.append_nil]
  have I:=hide H1.out;have O:=hide H2.out;rw[e1] at I;rw[e2] at O;clear e1 e2;go_wp2;go_end0;exact⟨vb,rfl,I.out,by rw[HN.out];exact O.out,H3.out⟩
end
section
open Go.RowKit Tk Sx

theorem abv(sc:List ay)(l:List bR)(s:bR):declared sc (l++[s])=if (declares s).2 then declared sc l++[⟨(declares s).1,s.val⟩] else declared sc l:=by
 induction l generalizing sc with
 | nil=>simp only[List.nil_append,declared]
 | cons x l ih=>
  rw[List.cons_append,declared,declared];split
  ·exact ih _
  exact ih _
theorem abr(l:List bR)(s:bR):iL (l++[s])=(iL l).or (if (declares s).2 && !vX (declares s).1 s.val then some s.at_ else none):=by
 induction l with
 | nil=>simp only[List.nil_append,iL,Option.none_or]
 | cons x l ih=>
  rw[List.cons_append,iL,iL,ih];split
  ·rfl
  rfl
theorem QJ(l:List bR):∀sc:List ay,(declared sc l).length≤sc.length+l.length:=by
 induction l with
 | nil=>intro sc;exact Nat.le_refl _
 | cons x l ih=>
  intro sc;rw[declared];split
  ·have:=ih (sc++[⟨(declares x).1,x.val⟩]);rw[List.length_append] at this;simp at this ⊢;omega
  have:=ih sc;simp;omega
theorem PI.Wj{B P:Nat}{w w1:World}{st:St}{b:bQ}{v:Pv}{A:Option Addr}{c:Nat}{sc:List ay}(h:PI B P w st b v)(hm:cg B 152 w w1)(ho:w1.ownsRow B 152 2 (.slice A sc.length c) sc.length (bj sc)) :
  PI B P (w1.setCell ⟨P,1,none⟩ (.slice A sc.length c)) ⟨st.open_,sc,st.evs,st.gL⟩ b ⟨v.Ao,v.co,A,c,v.Ae,v.ce,v.vb,v.xs⟩:=by
 have hb:=hm.blk h.blk (by decide);refine⟨hb.aG 1 _,h.bp,?_,?_,?_,h.ev,?_,?_⟩
 ·exact dX (p:=⟨P,1,none⟩) (hm.own h.o (by decide)) hb (by decide) _
 ·exact dX (p:=⟨P,1,none⟩) ho hb (by decide) _
 ·exact dX (p:=⟨P,1,none⟩) (hm.own h.e (by decide)) hb (by decide) _
 ·intro y hy;have oN:y.In B w1:=(h.gX y hy).tR hm (by decide);exact oN.gv ((aH.refl B P w1).setCell (p:=⟨P,1,none⟩) (.inl rfl) _) (sP oN hb)
 have h1:=h.bad.tR hm (by decide);exact h1.gv ((aH.refl B P w1).setCell (p:=⟨P,1,none⟩) (.inl rfl) _) hb (by decide)
theorem QH(l:List ay)(p u:L):bj (l++[⟨p,u⟩])=bj l++[.string (aa p),.string (aa u)]:=by simp[bj,mj]
theorem W5(p u:ByteArray):∀x∈([.string p,.string u]:List Value),x.oneCell'=true:=by
 intro x hx;simp only[List.mem_cons,List.not_mem_nil,or_false] at hx
 rcases hx with rfl|rfl<;>rfl
theorem Fx{w:World}{B g c n k:Nat}{l:List bR}{x:bR}(h:w.ownsRow B 150 4 (.slice (some ⟨g,0,none⟩) n c) n (bP l))(hn:l.length=n)(hx:l[k]?=some x):PN w g (k*4) x:=by
 obtain⟨h1,h2⟩:=List.getElem?_eq_some_iff.1 hx
 have hc:∀j,j<4→w.cell? ⟨g,k*4+j,none⟩=(rV x)[j]?:=fun j hj=>by
  rw[h.cellAt (k*4+j) (by omega)];unfold bP;rw[xm BV l k h1 j hj,h2]
 exact⟨hc 0 (by omega),hc 1 (by omega),hc 2 (by omega),hc 3 (by omega)⟩
def XM(B P:Nat)(w:World)(st:St)(v:Pv)(ss:List bR)(e:Ending)(w':World):Prop :=
 ∃v',e=.returned (.tuple #[])∧PI B P w' ⟨st.open_,declared st.scope ss,st.evs,st.gL⟩ (dv (iL ss)) v'∧bw B P [152] w w'∧v'.Ao=v.Ao

theorem abt(B P base:Nat)(w:World)(st:St)(v:Pv)(ss:List bR)(Al:Option Addr)(cl:Nat)(h:PI B P w st none v)(hB:B≤w.heap.size)
  (hl:w.ownsRow base 150 4 (.slice Al ss.length cl) ss.length (bP ss)) (hn:ss.length≤100000000) (hs:st.scope.length≤100000000) :
  Calls Tryz.prog 58 #[.pointer (some ⟨P,0,none⟩),.slice Al ss.length cl] w (XM B P w st v ss):=by
 have H:=hide h;have HB:=hide hB;have Hl:=hide hl;have Hs:=hide hs;obtain⟨n,bC⟩:∃n,ss.length=n:=⟨_,rfl⟩;rw[bC] at hn Hl ⊢;have HN:=hide bC;clear h hB hl bC hs
 go_enter Tryz.func58,Tryz.ntmps58
 go_wp2
 go_loopg [11] n (fun gk vk wr=>∃(k:Nat) (vr:Pv),gk=n-k∧k≤n∧vk=.int .i64 (k:Int)∧PI B P wr ⟨st.open_,declared st.scope (ss.take k),st.evs,st.gL⟩ (dv (iL (ss.take k))) vr∧bw B P [152] w wr∧vr.Ao=v.Ao)
 case atStart=>exact⟨0,v,rfl,by omega,rfl,H.out,bw.refl _ _ _ _,rfl⟩
 case round=>
  obtain⟨k,vr,aq,hk,rfl,h1,h3,mZ⟩:=hrel;have Hg:=hide aq;have H1:=hide h1;have H3:=hide h3;have ud:=hide mZ;clear aq h1 h3 mZ
  by_cases hlt:k<n
  ·obtain⟨s,hs⟩:∃s,ss[k]?=some s:=⟨_,List.getElem?_eq_getElem (by rw[HN.out];exact hlt)⟩;have eE:k<ss.length:=by rw[HN.out];exact hlt
   have O1:=hide (bw.own H3.out Hl.out H.out.blk (by decide) (by decide));obtain⟨lg,lc,kB,eP,lF⟩:=O1.out.form (by omega);have mm:Al=some ⟨lg,0,none⟩:=by injection kB
   subst mm;cases kB;have Sp:=hide (Fx O1.out HN.out hs);have vP:IntKind.i64.wrap ((k:Int)+1)=(k:Int)+1:=IntWalk.i64_in _ (by omega);have iy:ss.take (k+1)=ss.take k++[s]:=by rw[List.take_succ_eq_append_getElem eE,(List.getElem?_eq_some_iff.1 hs).2]
   have bt:=hide (show declared st.scope (ss.take (k+1))=if (declares s).2 then declared st.scope (ss.take k)++[⟨(declares s).1,s.val⟩] else declared st.scope (ss.take k) by rw[iy];exact abv _ _ _);have a8:=hide (show iL (ss.take (k+1))=(iL (ss.take k)).or (if (declares s).2 && !vX (declares s).1 s.val then some s.at_ else none) by rw[iy];exact abr _ _);have HD:=hide (QK s wr lg (k*4) Sp.out);have mg:=hide (show B≤wr.heap.size from Nat.le_trans HB.out H3.out.size);have sx:=hide (show (declared st.scope (ss.take k)).length≤200000000 by have:=QJ (ss.take k) st.scope;rw[List.length_take] at this;have:=Hs.out;omega);have u2:=Sp.out.c2;have u3:=Sp.out.c3;obtain⟨⟨p,is⟩,hd⟩:∃d,declares s=d:=⟨_,rfl⟩;rw[hd] at bt a8 HD;dsimp only at bt a8;unfold lS at HD;dsimp only at HD;obtain⟨u,hu⟩:∃u,s.val=u:=⟨_,rfl⟩;rw[hu] at u2 bt a8;clear iy hs eE hd hu
   cases is with
   | false=>
    go_wp2_with fail
    refine HD.out.mono ?_;rintro e w2 ⟨rfl,b2⟩;have I2:=hide (H1.out.go b2);have M2:=hide (H3.out.go b2);clear b2;go_wp2
    go_roundg (n-(k+1))
    case measure=>have:=Hg.out;omega
    case rel=>exact⟨k+1,vr,rfl,by omega,by first|rfl|go_num,by rw[bt.out,a8.out];simpa using I2.out,M2.out,ud.out⟩
   | true=>
    have q1:((aa p).toList==[120,109,108,110,115])=decide (p=kO):=kI (aa p) _;have q2:((aa u).toList==[104,116,116,112,58,47,47,119,119,119,46,119,51,46,111,114,103,47,50,48,48,48,47,120,109,108,110,115,47])=decide (u=FJ):=kI (aa u) _;have q3:((aa p).toList==[120,109,108])=decide (p=wa):=kI (aa p) _;have q4:((aa u).toList==[104,116,116,112,58,47,47,119,119,119,46,119,51,46,111,114,103,47,88,77,76,47,49,57,57,56,47,110,97,109,101,115,112,97,99,101])=decide (u=yy):=kI (aa u) _;have q5:=EZ p;have q5':=Dz p;have q6:=EZ u;have q6':=Dz u;have vF:vX p u=((!decide (p=kO))&&(!decide (u=FJ))&&(decide (p=wa)==decide (u=yy))&&(decide (p=[]) || !decide (u=[]))):=by unfold vX;simp only[decide_not,ne_eq]
    generalize decide (p=kO)=a1 at *
    generalize decide (u=FJ)=a2 at *
    generalize decide (p=wa)=a3 at *
    generalize decide (u=yy)=a4 at *
    generalize decide (p=[])=a5 at *
    generalize decide (u=[])=a6 at *
    have kU:=hide vF;clear vF
    go_upto_region 6 with (go_at_call 90;refine HD.out.mono ?_;rintro e w2 ⟨rfl,b2⟩;have B2:=hide b2;replace u2:=(b2.cell (p:=⟨lg,k*4+2,none⟩) lF).trans u2;clear b2)
    have I2:=hide (H1.out.go B2.out);have M2:=hide (H3.out.go B2.out);have zo:=hide (Nat.le_trans mg.out B2.out.size);replace u3:=(B2.out.cell (p:=⟨lg,k*4+3,none⟩) lF).trans u3;clear u2
    go_cut [8] (fun s8 wx=>s8=.bool (vX p u)∧wx=w2)
    case first=>
     cases a1 with
     | true=>
      go_wp2;(try simp only[Exit.then]);(try refine Met.intro ?_)
      first
       | (rename_i hJ hM;refine hM _ _ (Met.intro ?_);refine hJ _ _ ?_)
       | (rename_i hJ;refine hJ _ _ ?_)
       | (rename_i hJ hT;refine hJ _ _ ?_)
       | (rename_i hJ hT aX;refine hJ _ _ ?_)
       | (rename_i hJ hT aX cF;refine hJ _ _ ?_)
      (repeat apply Exists.intro);exact⟨⟨by rw[kU.out];rfl,rfl⟩,rfl⟩
     | false=>
      cases a2 with
      | true=>
       go_wp2;(try simp only[Exit.then]);(try refine Met.intro ?_)
       first
        | (rename_i hJ hM;refine hM _ _ (Met.intro ?_);refine hJ _ _ ?_)
        | (rename_i hJ;refine hJ _ _ ?_)
        | (rename_i hJ hT;refine hJ _ _ ?_)
        | (rename_i hJ hT aX;refine hJ _ _ ?_)
        | (rename_i hJ hT aX cF;refine hJ _ _ ?_)
       (repeat apply Exists.intro);exact⟨⟨by rw[kU.out];rfl,rfl⟩,rfl⟩
      | false=>
       cases a3 with
       | true=>
        cases a4 with
        | true=>
         cases a5 with
         | true=>
          go_wp2;(try simp only[Exit.then]);(try refine Met.intro ?_)
          first
           | (rename_i hJ hM;refine hM _ _ (Met.intro ?_);refine hJ _ _ ?_)
           | (rename_i hJ;refine hJ _ _ ?_)
           | (rename_i hJ hT;refine hJ _ _ ?_)
           | (rename_i hJ hT aX;refine hJ _ _ ?_)
           | (rename_i hJ hT aX cF;refine hJ _ _ ?_)
          (repeat apply Exists.intro);exact⟨⟨by rw[kU.out];rfl,rfl⟩,rfl⟩
         | false=>
          cases a6 with
          | true=>
           go_wp2;(try simp only[Exit.then]);(try refine Met.intro ?_)
           first
            | (rename_i hJ hM;refine hM _ _ (Met.intro ?_);refine hJ _ _ ?_)
            | (rename_i hJ;refine hJ _ _ ?_)
            | (rename_i hJ hT;refine hJ _ _ ?_)
            | (rename_i hJ hT aX;refine hJ _ _ ?_)
            | (rename_i hJ hT aX cF;refine hJ _ _ ?_)
           (repeat apply Exists.intro);exact⟨⟨by rw[kU.out];rfl,rfl⟩,rfl⟩
          | false=>
           go_wp2;(try simp only[Exit.then]);(try refine Met.intro ?_)
           first
            | (rename_i hJ hM;refine hM _ _ (Met.intro ?_);refine hJ _ _ ?_)
            | (rename_i hJ;refine hJ _ _ ?_)
            | (rename_i hJ hT;refine hJ _ _ ?_)
            | (rename_i hJ hT aX;refine hJ _ _ ?_)
            | (rename_i hJ hT aX cF;refine hJ _ _ ?_)
           (repeat apply Exists.intro);exact⟨⟨by rw[kU.out];rfl,rfl⟩,rfl⟩
        | false=>
         go_wp2;(try simp only[Exit.then]);(try refine Met.intro ?_)
         first
          | (rename_i hJ hM;refine hM _ _ (Met.intro ?_);refine hJ _ _ ?_)
          | (rename_i hJ;refine hJ _ _ ?_)
          | (rename_i hJ hT;refine hJ _ _ ?_)
          | (rename_i hJ hT aX;refine hJ _ _ ?_)
          | (rename_i hJ hT aX cF;refine hJ _ _ ?_)
         (repeat apply Exists.intro);exact⟨⟨by rw[kU.out];rfl,rfl⟩,rfl⟩
       | false=>
        cases a4 with
        | true=>
         go_wp2;(try simp only[Exit.then]);(try refine Met.intro ?_)
         first
          | (rename_i hJ hM;refine hM _ _ (Met.intro ?_);refine hJ _ _ ?_)
          | (rename_i hJ;refine hJ _ _ ?_)
          | (rename_i hJ hT;refine hJ _ _ ?_)
          | (rename_i hJ hT aX;refine hJ _ _ ?_)
          | (rename_i hJ hT aX cF;refine hJ _ _ ?_)
         (repeat apply Exists.intro);exact⟨⟨by rw[kU.out];rfl,rfl⟩,rfl⟩
        | false=>
         cases a5 with
         | true=>
          go_wp2;(try simp only[Exit.then]);(try refine Met.intro ?_)
          first
           | (rename_i hJ hM;refine hM _ _ (Met.intro ?_);refine hJ _ _ ?_)
           | (rename_i hJ;refine hJ _ _ ?_)
           | (rename_i hJ hT;refine hJ _ _ ?_)
           | (rename_i hJ hT aX;refine hJ _ _ ?_)
           | (rename_i hJ hT aX cF;refine hJ _ _ ?_)
          (repeat apply Exists.intro);exact⟨⟨by rw[kU.out];rfl,rfl⟩,rfl⟩
         | false=>
          cases a6 with
          | true=>
           go_wp2;(try simp only[Exit.then]);(try refine Met.intro ?_)
           first
            | (rename_i hJ hM;refine hM _ _ (Met.intro ?_);refine hJ _ _ ?_)
            | (rename_i hJ;refine hJ _ _ ?_)
            | (rename_i hJ hT;refine hJ _ _ ?_)
            | (rename_i hJ hT aX;refine hJ _ _ ?_)
            | (rename_i hJ hT aX cF;refine hJ _ _ ?_)
           (repeat apply Exists.intro);exact⟨⟨by rw[kU.out];rfl,rfl⟩,rfl⟩
          | false=>
           go_wp2;(try simp only[Exit.then]);(try refine Met.intro ?_)
           first
            | (rename_i hJ hM;refine hM _ _ (Met.intro ?_);refine hJ _ _ ?_)
            | (rename_i hJ;refine hJ _ _ ?_)
            | (rename_i hJ hT;refine hJ _ _ ?_)
            | (rename_i hJ hT aX;refine hJ _ _ ?_)
            | (rename_i hJ hT aX cF;refine hJ _ _ ?_)
           (repeat apply Exists.intro);exact⟨⟨by rw[kU.out];rfl,rfl⟩,rfl⟩
    case rest=>
     obtain⟨rfl,hwc⟩:=hcut;have aem:=hwc.symm;clear hwc;subst aem;obtain⟨my,lH⟩:∃my,vX p u=my:=⟨_,rfl⟩;have HM:=hide lH;rw[lH];clear lH
     cases my with
     | true=>
      have c1:=I2.out.c1;have f1:=I2.out.f1;have pJ:=I2.out.blk.lt;have HX:=hide (ae.new w2 152 #[.string (aa p),.string (aa u)]);obtain⟨m,hm⟩:∃m,(declared st.scope (ss.take k)).length=m:=⟨_,rfl⟩;have OS:=hide I2.out.s;dsimp only at c1 OS;rw[hm] at c1 OS;have Hm:=hide hm;have gB:=hide (show m≤200000000 by rw[←hm];exact sx.out);clear hm
      go_wp2_with (at_builtin;go_loud (refine tZ (w2.alloc (.cells #[.string (aa p),.string (aa u)] 152)) rfl (.tmp 62) (.tmp 66) 77 rfl B 152 _ 2 32 Tryz.underlying77 T9 rfl (by omega) (.slice _ m _) m _ rfl (OS.out.alloc _) [.string (aa p),.string (aa u)] rfl (W5 _ _) w2.heap.size HX.out rfl (by unfold maxLen;have:=gB.out;omega) (by have:=gB.out;omega) (by have:=zo.out;simp;omega) ?_);intro g8 dx w8 aN aF cY;have rf:cg B 152 w2 w8:=(cg.b7 (aA _ _)).trans (.grown aF fun j hj=>aI (OS.out.alloc _) j hj);have q8:w8.cell? ⟨P,1,none⟩=some _:=(rf.blk I2.out.blk (by decide)).cell 1;have fr8:=(rf.blk I2.out.blk (by decide)).frozen 1;have yP:=hide rf;have cL:=hide aN;clear rf aN aF cY)
      go_roundg (n-(k+1))
      case measure=>have:=Hg.out;omega
      case rel=>
       have hlen:(declared st.scope (ss.take (k+1))).length=m+1:=by rw[bt.out];simp only[if_true,List.length_append,Hm.out];rfl
       have ho:w8.ownsRow B 152 2 (.slice (some ⟨g8,0,none⟩) (declared st.scope (ss.take (k+1))).length dx) (declared st.scope (ss.take (k+1))).length (bj (declared st.scope (ss.take (k+1)))):=by
        rw[hlen,bt.out];simp only[if_true];rw[QH];exact cL.out
       have hI:=I2.out.Wj yP.out ho;rw[hlen] at hI;rw[show dv (iL (ss.take k))=dv (iL (ss.take (k+1))) by rw[a8.out,HM.out];simp] at hI;exact⟨k+1,_,rfl,by omega,by first|rfl|go_num,hI,(M2.out.trans (.U3 yP.out (by simp))).Wi (p:=⟨P,1,none⟩) (.inl rfl) _,ud.out⟩
     | false=>
      have HW:=hide (r7 B P w2 _ _ _ s.at_ 50 I2.out zo.out)
      go_wp2_with fail
      refine HW.out.mono ?_;rintro e w3 ⟨wA,rfl,h1,h2⟩;have I3:=hide h1;have M3:=hide (M2.out.trans (.fc h2));have CX:=hide (Nat.le_trans zo.out h2.size);clear h1 h2;have c1:=I3.out.c1;have f1:=I3.out.f1;have pJ:=I3.out.blk.lt;have HX:=hide (ae.new w3 152 #[.string (aa p),.string (aa u)]);obtain⟨m,hm⟩:∃m,(declared st.scope (ss.take k)).length=m:=⟨_,rfl⟩;have OS:=hide I3.out.s;dsimp only at c1 OS;rw[hm] at c1 OS;have Hm:=hide hm;have gB:=hide (show m≤200000000 by rw[←hm];exact sx.out);clear hm
      go_wp2_with (at_builtin;go_loud (refine tZ (w3.alloc (.cells #[.string (aa p),.string (aa u)] 152)) rfl (.tmp 62) (.tmp 66) 77 rfl B 152 _ 2 32 Tryz.underlying77 T9 rfl (by omega) (.slice _ m _) m _ rfl (OS.out.alloc _) [.string (aa p),.string (aa u)] rfl (W5 _ _) w3.heap.size HX.out rfl (by unfold maxLen;have:=gB.out;omega) (by have:=gB.out;omega) (by have:=CX.out;simp;omega) ?_);intro g8 dx w8 aN aF cY;have rf:cg B 152 w3 w8:=(cg.b7 (aA _ _)).trans (.grown aF fun j hj=>aI (OS.out.alloc _) j hj);have q8:w8.cell? ⟨P,1,none⟩=some _:=(rf.blk I3.out.blk (by decide)).cell 1;have fr8:=(rf.blk I3.out.blk (by decide)).frozen 1;have yP:=hide rf;have cL:=hide aN;clear rf aN aF cY)
      go_roundg (n-(k+1))
      case measure=>have:=Hg.out;omega
      case rel=>
       have hlen:(declared st.scope (ss.take (k+1))).length=m+1:=by rw[bt.out];simp only[if_true,List.length_append,Hm.out];rfl
       have ho:w8.ownsRow B 152 2 (.slice (some ⟨g8,0,none⟩) (declared st.scope (ss.take (k+1))).length dx) (declared st.scope (ss.take (k+1))).length (bj (declared st.scope (ss.take (k+1)))):=by
        rw[hlen,bt.out];simp only[if_true];rw[QH];exact cL.out
       have hI:=I3.out.Wj yP.out ho;rw[hlen] at hI;rw[show ym (dv (iL (ss.take k))) s.at_ 50=dv (iL (ss.take (k+1))) by rw[a8.out,HM.out,BC];simp] at hI;exact⟨k+1,_,rfl,by omega,by first|rfl|go_num,hI,(M3.out.trans (.U3 yP.out (by simp))).Wi (p:=⟨P,1,none⟩) (.inl rfl) _,ud.out⟩
  have hall:k=n:=by omega
  subst hall;have e1:ss.take k=ss:=List.take_of_length_le (by rw[HN.out];exact Nat.le_refl _);have I:=hide H1.out;rw[e1] at I;clear e1;go_wp2;go_end0;exact⟨vr,rfl,I.out,H3.out,ud.out⟩
end
end Go.Proofs.YtifiiojchlaghaaGreatDoor
