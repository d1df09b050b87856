/- Strict: the program's declares, values, declare. And more. -/
import Derived.Test.YtpdkeckeekchlaaGreatDoorOt13
set_option linter.unusedSimpArgs false
set_option maxHeartbeats 32000000
set_option linter.unusedVariables false
namespace Go.Proofs.YtpdkeckeekchlaaGreatDoor
section
open Go.RowKit Tk Sx

structure Ru(w:World)(b o:Nat)(s:bT):Prop where
 c0:w.cell? ⟨b,o,none⟩=some (.string (aa s.pre))
 c1:w.cell? ⟨b,o+1,none⟩=some (.string (aa s.loc))
 c2:w.cell? ⟨b,o+2,none⟩=some (.string (aa s.val))
 c3:w.cell? ⟨b,o+3,none⟩=some (.int .i64 (s.at_:Int))
theorem F8(l:L):(aa l).toList.isEmpty=decide (l=[]):=by rw[ByteArray.toList_eq,aZ];cases l<;>simp
theorem EK(l:L):((aa l).toList==([]:L))=decide (l=[]):=kL (aa l) []

theorem SD(s:bT)(w:World)(b o:Nat)(h:Ru w b o s):Calls Tryz.prog 115 #[.pointer (some ⟨b,o,none⟩)] w fun e w'=>e=.returned (lX (declares s))∧Below w.heap.size w w':=by
 obtain⟨c0,c1,-,-⟩:=h;have h1:((aa s.pre).toList==[120,109,108,110,115])=decide (s.pre=kR):=kL (aa s.pre) _;have h2:((aa s.loc).toList==[120,109,108,110,115])=decide (s.loc=kR):=kL (aa s.loc) _;have h3:=F8 s.pre;have h4:=EK s.pre;obtain⟨z,hz⟩:∃z,declares s=z:=⟨_,rfl⟩;rw[hz];unfold declares at hz
 by_cases hp:s.pre=kR
 ·have Hr:=ap (show lX z=.tuple #[.string (aa s.loc),.bool true] by rw[←hz,if_pos hp];rfl);rw[decide_eq_true hp] at h1;have h3':(aa s.pre).toList.isEmpty=false:=by rw[h3,hp];rfl
  clear hz hp h2 h3 h4 h3'
  go_enter Tryz.func115,Tryz.ntmps115
  go_wp2;go_ret2;rw[Hr.o];exact⟨rfl,Below.refl _ _⟩
 rw[decide_eq_false hp] at h1;rw[if_neg hp] at hz
 by_cases he:s.pre=[]
 ·have Hr:=ap (show lX z=.tuple #[.string ⟨#[]⟩,.bool (decide (s.loc=kR))] by rw[←hz];unfold lX;simp[he];rfl);rw[decide_eq_true he] at h3 h4;generalize decide (s.loc=kR)=q at *
  have hd:decide ((aa s.pre).toList=[])=true:=by rw[decide_eq_true_iff,←List.isEmpty_iff,h3]
  clear hz hp he
  go_enter Tryz.func115,Tryz.ntmps115
  go_wp2
  go_quiet (fail)
  go_wp2;go_ret2;rw[Hr.o];exact⟨rfl,below_drewN (Below.refl _ _) _⟩
 have Hr:=ap (show lX z=.tuple #[.string ⟨#[]⟩,.bool false] by rw[←hz];unfold lX;simp[he];rfl);rw[decide_eq_false he] at h3 h4;have hd:decide ((aa s.pre).toList=[])=false:=by rw[decide_eq_false_iff_not];intro h;rw[h] at h4;cases h4
 clear hz hp he h2
 go_enter Tryz.func115,Tryz.ntmps115
 go_wp2
 go_quiet (fail)
 go_wp2;go_ret2;rw[Hr.o];exact⟨rfl,below_drewN (Below.refl _ _) _⟩

structure bD(B P:Nat)(T:List Nat)(w w':World):Prop where
 os:w'.os=w.os
 tape:w'.tape=w.tape
 output:w'.output=w.output
 size:w.heap.size≤w'.heap.size
 block:∀k,k<w.heap.size→k≠P→¬(B≤k∧∃t∈T,bN w k t)→w'.heap[k]?=w.heap[k]?
section
variable {B P:Nat} {T:List Nat} {w w1 w':World}
theorem bD.refl(B P:Nat)(T:List Nat)(w:World):bD B P T w w:=⟨rfl,rfl,rfl,Nat.le_refl _,fun _ _ _ _=>rfl⟩
theorem bD.trans(h:bD B P T w w1)(k:bD B P T w1 w'):bD B P T w w':=by
 refine⟨k.os.trans h.os,k.tape.trans h.tape,k.output.trans h.output,Nat.le_trans h.size k.size,fun i hi hb hn=>?_⟩;have e:=h.block i hi hb hn;rw[k.block i (Nat.lt_of_lt_of_le hi h.size) hb ?_,e];rintro ⟨h1,t,ht,h2⟩;exact hn ⟨h1,t,ht,Ci h2 e.symm⟩
theorem bD.b8(h:Below w.heap.size w w'):bD B P T w w':=⟨h.os,h.tape,h.output,h.size,fun k hk _ _=>h.block k hk⟩
theorem bD.fl(h:ai P w w'):bD B P T w w':=⟨h.os,h.tape,h.output,h.size,fun k hk hP _=>h.block k hk hP⟩
theorem bD.WS{t:Nat}(h:cg B t w w')(ht:t∈T):bD B P T w w':=⟨h.os,h.tape,h.output,h.size,fun k hk _ hn=>h.block k hk fun hh=>hn ⟨hh.1,t,ht,hh.2⟩⟩
theorem bD.go(h:bD B P T w w1)(k:Below w1.heap.size w1 w'):bD B P T w w':=h.trans (.b8 k)
theorem bD.below{C:Nat}(h:bD B P T w w')(hB:C≤B)(hP:C≤P)(hs:C≤w.heap.size):Below C w w':=⟨h.os,h.tape,h.output,h.size,fun k hk=>h.block k (by omega) (by omega) (fun hh=>by omega)⟩
theorem bD.X8(h:bD B P T w w1){p:Addr}(hp:p.block=P∨w.heap.size≤p.block)(u:Value):bD B P T w (w1.setCell p u):=by
 refine⟨h.os,h.tape,h.output,by simpa[World.setCell] using h.size,fun k hk hb hn=>?_⟩;rw[Below.heap_setCell _ _ _ _ (by omega)];exact h.block k hk hb hn
theorem bD.Ya(h:bD B P T w w1){p:Addr}{t:Nat}(hp:B≤p.block∧bN w1 p.block t)(ht:t∈T)(u:Value):bD B P T w (w1.setCell p u) :=
 h.trans ⟨rfl,rfl,rfl,by simp[World.setCell],fun k _ _ hn=>Below.heap_setCell _ _ _ _ (by rintro rfl;exact hn ⟨hp.1,t,ht,hp.2⟩)⟩
theorem bD.blk{g t:Nat}{cs:Array Value}(h:bD B P T w w')(hg:ae w g t cs)(hP:g≠P)(ht:t∉T):ae w' g t cs :=
 (h.block g hg.lt hP (fun⟨_,t',rO,h2⟩=>gV hg.fh h2 (fun e=>ht (by rw[e];exact rO)))).trans hg
theorem bD.own{b e size n t:Nat}{v:Value}{xs:List Value}{cs:Array Value}(h:bD B P T w w')(ho:w.ownsRow b e size v n xs)(hP:ae w P t cs)(hne:e≠t)(ht:e∉T):w'.ownsRow b e size v n xs:=by
 refine⟨ho.1,?_⟩
 rcases ho.2 with hn|⟨g,cap,cur,rfl,jr,dT,rest⟩
 ·exact .inl hn
 refine .inr ⟨g,cap,cur,rfl,jr,(h.block g (Array.getElem?_eq_some_iff.1 dT).1 (fun e1=>?_) (fun⟨_,t',rO,h2⟩=>gV ⟨cur,_,dT⟩ h2 (fun e1=>ht (by rw[e1];exact rO)))).trans dT,rest⟩;subst e1;exact gV ⟨cur,_,dT⟩ hP.fh hne
theorem ai.mvs{Z:Nat}(h:ai P w w1)(hZ:w.heap.size≤Z)(k:bD Z P T w1 w'):ai P w w' :=
 ⟨k.os.trans h.os,k.tape.trans h.tape,k.output.trans h.output,Nat.le_trans h.size k.size,fun i hi hP=>(k.block i (Nat.lt_of_lt_of_le hi h.size) hP (fun hh=>by omega)).trans (h.block i hi hP)⟩
theorem aF.aib(h:bD B P [187] w w'):aF B P w w':=⟨h.os,h.tape,h.output,h.size,fun k hk hP hn=>h.block k hk hP fun hh=>by
 obtain⟨h1,t,ht,h2⟩:=hh;simp only[List.mem_singleton] at ht;subst ht;exact hn ⟨h1,.inr (.inl h2)⟩⟩
theorem PI.far{st:St}{b:bS}{v:Pv}(h:PI B P w st b v){p:Addr}{t:Nat}{cs:Array Value}(hp:ae w p.block t cs)(ht:t∉[107,140,187,79,155,115])(u:Value):PI B P (w.setCell p u) st b v:=by
 have n1:∀{t'},t'∈[107,140,187,79,155,115]→t'≠t:=fun hh e=>ht (by rw[←e];exact hh);have hm:ai p.block w (w.setCell p u):=(ai.refl _ _).setCell (.inl rfl) u;refine⟨h.blk.far (h.blk.Gq hp (n1 (by simp))) u,h.bp,dN h.o hp (n1 (by simp)) u,dN h.s hp (n1 (by simp)) u,dN h.e hp (n1 (by simp)) u,h.ev,fun x hx=>?_,?_⟩
 ·have hi:=h.gU x hx
  have sa:∀a,x.A=some a→(w.setCell p u).heap[a.block]?=w.heap[a.block]?:=fun a ha=>hm.block _ (hi.ta a ha).lt fun e=>by
   have:=hi.ta a ha;rw[e] at this;exact gV this hp.fh (n1 (by simp))
  exact⟨hi.a.same sa hm.size,hi.va,hi.ta.same sa⟩
 have hb:=h.bad;unfold gJ at hb ⊢
 cases b with
 | none=>exact hb
 | some x=>
  obtain⟨F,h1,h2,h3⟩:=hb;exact⟨F,h1,h2,h3.far (h3.Gq hp (n1 (by simp))) u⟩
end
def cW(x:Option Nat):bS:=x.map fun a=>(a,50)
theorem Gz(x:Option Nat)(a:Nat):za (cW x) a 50=cW (x.or (some a)):=by cases x<;>rfl
theorem ang(l:List At)(a:At):jV (l++[a])=(jV l).or (match value a.value with | .ok _=>none | .error _=>some a.at_):=by
 induction l with
 | nil=>simp only[List.nil_append,jV,Option.none_or];cases value a.value<;>rfl
 | cons x l ih=>
  rw[List.cons_append,jV,jV,ih]
  cases value x.value<;>rfl
theorem alP(a:At):(fp a).at_=a.at_:=by unfold fp;cases split a.name<;>rfl
theorem CV(s:bT):(uw s).length=4:=rfl
def jb(k:Nat)(ar:List At):List bT:=(ar.take k).map sj++(ar.drop k).map fp
theorem Y8(k:Nat)(ar:List At):(jb k ar).length=ar.length:=by unfold jb;simp only[List.length_append,List.length_map,List.length_take,List.length_drop];omega
theorem anc{k:Nat}{ar:List At}{a:At}(h:ar[k]?=some a):jb (k+1) ar=(jb k ar).set k (sj a):=by
 obtain⟨h1,h2⟩:=List.getElem?_eq_some_iff.1 h;have hl:((ar.take k).map sj).length=k:=by simp;omega
 unfold jb;rw[List.take_succ_eq_append_getElem h1,h2,List.map_append,List.set_append_right _ _ (by omega),hl,Nat.sub_self,List.drop_eq_getElem_cons h1,List.map_cons,List.map_cons,List.set_cons_zero,List.map_nil,List.append_assoc];rfl
theorem alU{k:Nat}{l:List bT}{s:bT}{d:L}(h:l[k]?=some s):(cS l).set (k*4+2) (.string (aa d))=cS (l.set k ⟨s.pre,s.loc,d,s.at_⟩):=by
 obtain⟨h1,h2⟩:=List.getElem?_eq_some_iff.1 h;have e:l=l.take k++s :: l.drop (k+1):=by rw[←h2,←List.drop_eq_getElem_cons h1,List.take_append_drop]
 have hl:(l.take k).length=k:=by rw[List.length_take];omega
 have e2:l.set k ⟨s.pre,s.loc,d,s.at_⟩=l.take k++⟨s.pre,s.loc,d,s.at_⟩ :: l.drop (k+1):=by
  conv=>lhs;rw[e]
  rw[List.set_append_right _ _ (by omega),hl,Nat.sub_self];rfl
 rw[e2]
 conv=>lhs;rw[e]
 unfold cS;rw[List.flatMap_append,List.flatMap_append,List.flatMap_cons,List.flatMap_cons,List.set_append_right _ _ (by rw[vH CV,hl];omega),vH CV,hl,Nat.add_sub_cancel_left];rfl

def abW(B P base:Nat)(w:World)(st:St)(v:Pv)(ar:List At)(Al:Option Addr)(cl:Nat)(e:Ending)(w':World):Prop :=
 ∃vb,e=.returned (.tuple #[])∧PI B P w' st (cW (jV ar)) ⟨v.Ao,v.co,v.As,v.cs,v.Ae,v.ce,vb,v.xs⟩∧w'.ownsRow base 185 4 (.slice Al ar.length cl) ar.length (cS (ar.map sj))∧bD base P [185] w w'

theorem anj(B P base:Nat)(w:World)(st:St)(v:Pv)(b o:Nat)(ar:List At)(eP Al:Option Addr)(ct cl:Nat)(h:PI B P w st none v)(hB:B≤w.heap.size)(aN:B≤base)
  (hl:w.ownsRow base 185 4 (.slice Al ar.length cl) ar.length (cS (ar.map fp))) (hb:b<B) (ht:w.cell? ⟨b,o+2,none⟩=some (.slice eP ar.length ct)) (hr:Reads w B 3 eP ar.length (lz (ar.map At.g)))
  (hn:ar.length≤1000000000) (hv:∀a∈ar,a.value.length≤100000) :
  Calls Tryz.prog 77 #[.pointer (some ⟨P,0,none⟩),.pointer (some ⟨b,o,none⟩),.slice Al ar.length cl] w (abW B P base w st v ar Al cl):=by
 have H:=ap h;have HB:=ap hB;have Hv:=ap hv;have Hl:=ap hl;have Hr:=ap hr;obtain⟨n,bC⟩:∃n,ar.length=n:=⟨_,rfl⟩;rw[bC] at ht hn Hl Hr ⊢;have HN:=ap bC;clear h hB hl hr hv bC
 go_enter Tryz.func77,Tryz.ntmps77
 go_wp2
 go_loopg [16] n (fun gk vk wr=>∃(k:Nat) (vb:Value),gk=n-k∧k≤n∧vk=.int .i64 (k:Int)∧PI B P wr st (cW (jV (ar.take k))) ⟨v.Ao,v.co,v.As,v.cs,v.Ae,v.ce,vb,v.xs⟩∧
  wr.ownsRow base 185 4 (.slice Al n cl) n (cS (jb k ar))∧bD base P [185] w wr)
 case atStart=>exact⟨0,v.vb,rfl,by omega,rfl,H.o,Hl.o,bD.refl _ _ _ _⟩
 case round=>
  obtain⟨k,vb,au,hk,rfl,h1,h2,h3⟩:=hrel;have Hg:=ap au;have H1:=ap h1;have H2:=ap h2;have H3:=ap h3;clear au h1 h2 h3
  by_cases hlt:k<n
  ·obtain⟨a,ha⟩:∃a,ar[k]?=some a:=⟨_,List.getElem?_eq_getElem (by rw[HN.o];exact hlt)⟩;have eh:k<ar.length:=by rw[HN.o];exact hlt
   have nv:=(Hr.o.below (H3.o.below aN H.o.bp HB.o));rw[←HN.o] at nv;rw[show ar.length=(ar.map At.g).length by rw[List.length_map]] at nv;obtain⟨ab,ao,x8,hab,ga⟩:=Reads.ga nv (k:=k) (by rw[List.length_map];exact eh);rw[List.getElem_map,(List.getElem?_eq_some_iff.1 ha).2] at ga;have g0:wr.cell? ⟨ab,ao+k*3,none⟩=some (.string (aa a.name)):=ga.c0;have g1:wr.cell? ⟨ab,ao+k*3+1,none⟩=some (.string (aa a.value)):=ga.c1;have g2:wr.cell? ⟨ab,ao+k*3+2,none⟩=some (.int .i64 (a.at_:Int)):=ga.c2;obtain⟨lg,lc,kI,fc,lM⟩:=H2.o.form (by omega);have mr:Al=some ⟨lg,0,none⟩:=by injection kI
   subst mr;cases kI;subst x8;have wK:IntKind.i64.wrap ((k:Int)+1)=(k:Int)+1:=IntWalk.i64_in _ (by omega)
   have Ub:(jb k ar)[k]?=some (fp a):=by
    unfold jb;have rE:((ar.take k).map sj).length=k:=by simp;omega
    rw[List.getElem?_append_right (by omega),rE,Nat.sub_self,List.getElem?_map,List.getElem?_drop,Nat.add_zero,ha];rfl
   have cz:=ap (show cS (jb (k+1) ar)=(cS (jb k ar)).set (k*4+2) (.string (aa (Sx.valOf a))) by rw[alU Ub,anc ha,show sj a=⟨(fp a).pre,(fp a).loc,Sx.valOf a,(fp a).at_⟩ by unfold sj;rw[alP]])
   have a8:=ap (show jV (ar.take (k+1))=(jV (ar.take k)).or (match value a.value with | .ok _=>none | .error _=>some a.at_) by
    rw[List.take_succ_eq_append_getElem eh,(List.getElem?_eq_some_iff.1 ha).2,ang])
   have pG:=ap (fun W=>anh a.value W (Hv.o a (List.mem_of_getElem? ha)));have qX:=ap (show B≤wr.heap.size from Nat.le_trans HB.o H3.o.size);have KV:=ap (ae.new wr 183 #[.string (aa a.name),.string (aa a.value),.int .i64 (a.at_:Int)]);have B1:=ap (ay wr (.cells #[.string (aa a.name),.string (aa a.value),.int .i64 (a.at_:Int)] 183));have tG:Sx.valOf a=match value a.value with | .ok v=>v | .error _=>[]:=rfl
   clear Ub ga nv ha eh
   cases hy:value a.value with
   | ok out=>
    rw[hy] at pG a8 tG;dsimp only at a8 tG;rw[tG] at cz;unfold iZ at pG;clear hy tG
    go_wp2_with fail
    refine (pG.o _).mono ?_;rintro e w2 ⟨rfl,b2⟩;have B2:=ap (B1.o.trans (b2.mono B1.o.size));have I2:=ap (H1.o.go B2.o);have O2:=ap (fo H2.o B2.o);have M2:=ap (H3.o.go B2.o)
    have bh:∃cs,ae w2 lg 185 cs:=by
     rcases O2.o.2 with ⟨h,_⟩|⟨g',c',cur,h,_,hh,_⟩
     ·cases h
     cases h;exact⟨cur,hh⟩
    obtain⟨cur,bh⟩:=bh;have bO:=ap bh;have s2:w2.cell? ⟨lg,k*4+2,none⟩=(cS (jb k ar))[k*4+2]?:=O2.o.cellAt (k*4+2) (by omega);rw[show (cS (jb k ar))[k*4+2]?=some ((cS (jb k ar))[k*4+2]'(by unfold cS;rw[vH CV,Y8,HN.o];omega)) from List.getElem?_eq_getElem _] at s2;have fr2:=O2.o.frozenAt (k*4+2);clear b2 bh;go_wp2
    go_roundg (n-(k+1))
    case measure=>have:=Hg.o;omega
    case rel=>
     refine⟨k+1,vb,rfl,by omega,by first|rfl|go_num,?_,?_,?_⟩
     ·rw[a8.o,Option.or_none];exact I2.o.far (p:=⟨lg,k*4+2,none⟩) bO.o (by decide) _
     ·rw[cz.o];exact (O2.o.stored (k*4+2) _).1
     exact M2.o.Ya (p:=⟨lg,k*4+2,none⟩) (t:=185) ⟨fc,bO.o.fh⟩ (by simp) _
   | error x=>
    rw[hy] at pG a8 tG;dsimp only at a8 tG;rw[tG] at cz;unfold iZ at pG;clear hy tG
    go_wp2_with fail
    refine (pG.o _).mono ?_;rintro e w2 ⟨rfl,b2⟩;have B2:=ap (B1.o.trans (b2.mono B1.o.size));have I2:=ap (H1.o.go B2.o);have O2:=ap (fo H2.o B2.o);have M2:=ap (H3.o.go B2.o);have Rb:=KV.o.go (b2);have v2:w2.cell? ⟨wr.heap.size,2,none⟩=some (.int .i64 (a.at_:Int)):=Rb.cell 2;have HW:=ap (uA B P w2 st _ _ a.at_ 50 I2.o (Nat.le_trans qX.o B2.o.size));have pP:=I2.o.blk;clear b2 Rb
    go_wp2_with fail
    refine HW.o.mono ?_;rintro e w3 ⟨wZ,rfl,h1,h2⟩;have I3:=ap h1;have B3:=ap h2;have O3:=ap (bD.own (B:=0) (T:=[]) (.fl h2) O2.o pP (by decide) (by simp));have M3:=ap (M2.o.trans (.fl h2));clear h1 h2 pP
    have bh:∃cs,ae w3 lg 185 cs:=by
     rcases O3.o.2 with ⟨h,_⟩|⟨g',c',cur,h,_,hh,_⟩
     ·cases h
     cases h;exact⟨cur,hh⟩
    obtain⟨cur,bh⟩:=bh;have bO:=ap bh;have s2:w3.cell? ⟨lg,k*4+2,none⟩=(cS (jb k ar))[k*4+2]?:=O3.o.cellAt (k*4+2) (by omega);rw[show (cS (jb k ar))[k*4+2]?=some ((cS (jb k ar))[k*4+2]'(by unfold cS;rw[vH CV,Y8,HN.o];omega)) from List.getElem?_eq_getElem _] at s2;have fr2:=O3.o.frozenAt (k*4+2);clear bh;go_wp2
    go_roundg (n-(k+1))
    case measure=>have:=Hg.o;omega
    case rel=>
     refine⟨k+1,wZ,rfl,by omega,by first|rfl|go_num,?_,?_,?_⟩
     ·rw[a8.o,←Gz];exact I3.o.far (p:=⟨lg,k*4+2,none⟩) bO.o (by decide) _
     ·rw[cz.o];exact (O3.o.stored (k*4+2) _).1
     exact M3.o.Ya (p:=⟨lg,k*4+2,none⟩) (t:=185) ⟨fc,bO.o.fh⟩ (by simp) _
  have hall:k=n:=by omega
  subst hall;have e1:ar.take k=ar:=List.take_of_length_le (by rw[HN.o];exact Nat.le_refl _)
  have e2:jb k ar=ar.map sj:=by
   unfold jb;rw[e1,List.drop_of_length_le (by rw[HN.o];exact Nat.le_refl _),List.map_nil,List.append_nil]
  have I:=ap H1.o;have O:=ap H2.o;rw[e1] at I;rw[e2] at O;clear e1 e2;go_wp2;go_end0;exact⟨vb,rfl,I.o,by rw[HN.o];exact O.o,H3.o⟩
end
section
open Go.RowKit Tk Sx

theorem adm(sc:List aB)(l:List bT)(s:bT):declared sc (l++[s])=if (declares s).2 then declared sc l++[⟨(declares s).1,s.val⟩] else declared sc l:=by
 induction l generalizing sc with
 | nil=>simp only[List.nil_append,declared]
 | cons x l ih=>
  rw[List.cons_append,declared,declared];split
  ·exact ih _
  exact ih _
theorem adj(l:List bT)(s:bT):iO (l++[s])=(iO l).or (if (declares s).2 && !wS (declares s).1 s.val then some s.at_ else none):=by
 induction l with
 | nil=>simp only[List.nil_append,iO,Option.none_or]
 | cons x l ih=>
  rw[List.cons_append,iO,iO,ih];split
  ·rfl
  rfl
theorem SC(l:List bT):∀sc:List aB,(declared sc l).length≤sc.length+l.length:=by
 induction l with
 | nil=>intro sc;exact Nat.le_refl _
 | cons x l ih=>
  intro sc;rw[declared];split
  ·have:=ih (sc++[⟨(declares x).1,x.val⟩]);rw[List.length_append] at this;simp at this ⊢;omega
  have:=ih sc;simp;omega
theorem PI.X9{B P:Nat}{w w1:World}{st:St}{b:bS}{v:Pv}{A:Option Addr}{c:Nat}{sc:List aB}(h:PI B P w st b v)(hm:cg B 187 w w1)(ho:w1.ownsRow B 187 2 (.slice A sc.length c) sc.length (aM sc)) :
  PI B P (w1.setCell ⟨P,1,none⟩ (.slice A sc.length c)) ⟨st.open_,sc,st.evs,st.gI⟩ b ⟨v.Ao,v.co,A,c,v.Ae,v.ce,v.vb,v.xs⟩:=by
 have hb:=hm.blk h.blk (by decide);refine⟨hb.aH 1 _,h.bp,?_,?_,?_,h.ev,?_,?_⟩
 ·exact dN (p:=⟨P,1,none⟩) (hm.own h.o (by decide)) hb (by decide) _
 ·exact dN (p:=⟨P,1,none⟩) ho hb (by decide) _
 ·exact dN (p:=⟨P,1,none⟩) (hm.own h.e (by decide)) hb (by decide) _
 ·intro y hy;have oU:y.In B w1:=(h.gU y hy).um hm (by decide);exact oU.fZ ((aF.refl B P w1).setCell (p:=⟨P,1,none⟩) (.inl rfl) _) (tu oU hb)
 have h1:=h.bad.um hm (by decide);exact h1.fZ ((aF.refl B P w1).setCell (p:=⟨P,1,none⟩) (.inl rfl) _) hb (by decide)
theorem SA(l:List aB)(p u:L):aM (l++[⟨p,u⟩])=aM l++[.string (aa p),.string (aa u)]:=by simp[aM,jH]
theorem YS(p u:ByteArray):∀x∈([.string p,.string u]:List Value),x.oneCell'=true:=by
 intro x hx;simp only[List.mem_cons,List.not_mem_nil,or_false] at hx
 rcases hx with rfl|rfl<;>rfl
theorem GS{w:World}{B g c n k:Nat}{l:List bT}{x:bT}(h:w.ownsRow B 185 4 (.slice (some ⟨g,0,none⟩) n c) n (cS l))(hn:l.length=n)(hx:l[k]?=some x):Ru w g (k*4) x:=by
 obtain⟨h1,h2⟩:=List.getElem?_eq_some_iff.1 hx
 have hc:∀j,j<4→w.cell? ⟨g,k*4+j,none⟩=(uw x)[j]?:=fun j hj=>by
  rw[h.cellAt (k*4+j) (by omega)];unfold cS;rw[xW CV l k h1 j hj,h2]
 exact⟨hc 0 (by omega),hc 1 (by omega),hc 2 (by omega),hc 3 (by omega)⟩
def ZB(B P:Nat)(w:World)(st:St)(v:Pv)(ss:List bT)(e:Ending)(w':World):Prop :=
 ∃v',e=.returned (.tuple #[])∧PI B P w' ⟨st.open_,declared st.scope ss,st.evs,st.gI⟩ (cW (iO ss)) v'∧bD B P [187] w w'∧v'.Ao=v.Ao

theorem adk(B P base:Nat)(w:World)(st:St)(v:Pv)(ss:List bT)(Al:Option Addr)(cl:Nat)(h:PI B P w st none v)(hB:B≤w.heap.size)
  (hl:w.ownsRow base 185 4 (.slice Al ss.length cl) ss.length (cS ss)) (hn:ss.length≤100000000) (hs:st.scope.length≤100000000) :
  Calls Tryz.prog 78 #[.pointer (some ⟨P,0,none⟩),.slice Al ss.length cl] w (ZB B P w st v ss):=by
 have H:=ap h;have HB:=ap hB;have Hl:=ap hl;have Hs:=ap hs;obtain⟨n,bC⟩:∃n,ss.length=n:=⟨_,rfl⟩;rw[bC] at hn Hl ⊢;have HN:=ap bC;clear h hB hl bC hs
 go_enter Tryz.func78,Tryz.ntmps78
 go_wp2
 go_loopg [11] n (fun gk vk wr=>∃(k:Nat) (vr:Pv),gk=n-k∧k≤n∧vk=.int .i64 (k:Int)∧PI B P wr ⟨st.open_,declared st.scope (ss.take k),st.evs,st.gI⟩ (cW (iO (ss.take k))) vr∧bD B P [187] w wr∧vr.Ao=v.Ao)
 case atStart=>exact⟨0,v,rfl,by omega,rfl,H.o,bD.refl _ _ _ _,rfl⟩
 case round=>
  obtain⟨k,vr,au,hk,rfl,h1,h3,nu⟩:=hrel;have Hg:=ap au;have H1:=ap h1;have H3:=ap h3;have uD:=ap nu;clear au h1 h3 nu
  by_cases hlt:k<n
  ·obtain⟨s,hs⟩:∃s,ss[k]?=some s:=⟨_,List.getElem?_eq_getElem (by rw[HN.o];exact hlt)⟩;have eh:k<ss.length:=by rw[HN.o];exact hlt
   have O1:=ap (bD.own H3.o Hl.o H.o.blk (by decide) (by decide));obtain⟨lg,lc,kI,fc,lM⟩:=O1.o.form (by omega);have mr:Al=some ⟨lg,0,none⟩:=by injection kI
   subst mr;cases kI;have Sp:=ap (GS O1.o HN.o hs);have wK:IntKind.i64.wrap ((k:Int)+1)=(k:Int)+1:=IntWalk.i64_in _ (by omega);have iy:ss.take (k+1)=ss.take k++[s]:=by rw[List.take_succ_eq_append_getElem eh,(List.getElem?_eq_some_iff.1 hs).2]
   have bt:=ap (show declared st.scope (ss.take (k+1))=if (declares s).2 then declared st.scope (ss.take k)++[⟨(declares s).1,s.val⟩] else declared st.scope (ss.take k) by rw[iy];exact adm _ _ _);have a8:=ap (show iO (ss.take (k+1))=(iO (ss.take k)).or (if (declares s).2 && !wS (declares s).1 s.val then some s.at_ else none) by rw[iy];exact adj _ _);have HD:=ap (SD s wr lg (k*4) Sp.o);have qX:=ap (show B≤wr.heap.size from Nat.le_trans HB.o H3.o.size);have sM:=ap (show (declared st.scope (ss.take k)).length≤200000000 by have:=SC (ss.take k) st.scope;rw[List.length_take] at this;have:=Hs.o;omega);have u2:=Sp.o.c2;have u3:=Sp.o.c3;obtain⟨⟨p,is⟩,hd⟩:∃d,declares s=d:=⟨_,rfl⟩;rw[hd] at bt a8 HD;dsimp only at bt a8;unfold lX at HD;dsimp only at HD;obtain⟨u,hu⟩:∃u,s.val=u:=⟨_,rfl⟩;rw[hu] at u2 bt a8;clear iy hs eh hd hu
   cases is with
   | false=>
    go_wp2_with fail
    refine HD.o.mono ?_;rintro e w2 ⟨rfl,b2⟩;have I2:=ap (H1.o.go b2);have M2:=ap (H3.o.go b2);clear b2;go_wp2
    go_roundg (n-(k+1))
    case measure=>have:=Hg.o;omega
    case rel=>exact⟨k+1,vr,rfl,by omega,by first|rfl|go_num,by rw[bt.o,a8.o];simpa using I2.o,M2.o,uD.o⟩
   | true=>
    have q1:((aa p).toList==[120,109,108,110,115])=decide (p=kR):=kL (aa p) _;have q2:((aa u).toList==[104,116,116,112,58,47,47,119,119,119,46,119,51,46,111,114,103,47,50,48,48,48,47,120,109,108,110,115,47])=decide (u=G8):=kL (aa u) _;have q3:((aa p).toList==[120,109,108])=decide (p=wT):=kL (aa p) _;have q4:((aa u).toList==[104,116,116,112,58,47,47,119,119,119,46,119,51,46,111,114,103,47,88,77,76,47,49,57,57,56,47,110,97,109,101,115,112,97,99,101])=decide (u=zt):=kL (aa u) _;have q5:=F8 p;have q5':=EK p;have q6:=F8 u;have q6':=EK u;have LU:wS p u=((!decide (p=kR))&&(!decide (u=G8))&&(decide (p=wT)==decide (u=zt))&&(decide (p=[]) || !decide (u=[]))):=by unfold wS;simp only[decide_not,ne_eq]
    generalize decide (p=kR)=a1 at *
    generalize decide (u=G8)=a2 at *
    generalize decide (p=wT)=a3 at *
    generalize decide (u=zt)=a4 at *
    generalize decide (p=[])=a5 at *
    generalize decide (u=[])=a6 at *
    have pE:=ap LU;clear LU
    go_upto_region 6 with (go_at_call 115;refine HD.o.mono ?_;rintro e w2 ⟨rfl,b2⟩;have B2:=ap b2;replace u2:=(b2.cell (p:=⟨lg,k*4+2,none⟩) lM).trans u2;clear b2)
    have I2:=ap (H1.o.go B2.o);have M2:=ap (H3.o.go B2.o);have Aj:=ap (Nat.le_trans qX.o B2.o.size);replace u3:=(B2.o.cell (p:=⟨lg,k*4+3,none⟩) lM).trans u3;clear u2
    go_cut [8] (fun s8 wx=>s8=.bool (wS p u)∧wx=w2)
    case first=>
     cases a1 with
     | true=>
      go_wp2;(try simp only[Exit.then]);(try refine Met.intro ?_)
      first
       | (rename_i hJ hM;refine hM _ _ (Met.intro ?_);refine hJ _ _ ?_)
       | (rename_i hJ;refine hJ _ _ ?_)
       | (rename_i hJ hT;refine hJ _ _ ?_)
       | (rename_i hJ hT aW;refine hJ _ _ ?_)
       | (rename_i hJ hT aW cH;refine hJ _ _ ?_)
      (repeat apply Exists.intro);exact⟨⟨by rw[pE.o];rfl,rfl⟩,rfl⟩
     | false=>
      cases a2 with
      | true=>
       go_wp2;(try simp only[Exit.then]);(try refine Met.intro ?_)
       first
        | (rename_i hJ hM;refine hM _ _ (Met.intro ?_);refine hJ _ _ ?_)
        | (rename_i hJ;refine hJ _ _ ?_)
        | (rename_i hJ hT;refine hJ _ _ ?_)
        | (rename_i hJ hT aW;refine hJ _ _ ?_)
        | (rename_i hJ hT aW cH;refine hJ _ _ ?_)
       (repeat apply Exists.intro);exact⟨⟨by rw[pE.o];rfl,rfl⟩,rfl⟩
      | false=>
       cases a3 with
       | true=>
        cases a4 with
        | true=>
         cases a5 with
         | true=>
          go_wp2;(try simp only[Exit.then]);(try refine Met.intro ?_)
          first
           | (rename_i hJ hM;refine hM _ _ (Met.intro ?_);refine hJ _ _ ?_)
           | (rename_i hJ;refine hJ _ _ ?_)
           | (rename_i hJ hT;refine hJ _ _ ?_)
           | (rename_i hJ hT aW;refine hJ _ _ ?_)
           | (rename_i hJ hT aW cH;refine hJ _ _ ?_)
          (repeat apply Exists.intro);exact⟨⟨by rw[pE.o];rfl,rfl⟩,rfl⟩
         | false=>
          cases a6 with
          | true=>
           go_wp2;(try simp only[Exit.then]);(try refine Met.intro ?_)
           first
            | (rename_i hJ hM;refine hM _ _ (Met.intro ?_);refine hJ _ _ ?_)
            | (rename_i hJ;refine hJ _ _ ?_)
            | (rename_i hJ hT;refine hJ _ _ ?_)
            | (rename_i hJ hT aW;refine hJ _ _ ?_)
            | (rename_i hJ hT aW cH;refine hJ _ _ ?_)
           (repeat apply Exists.intro);exact⟨⟨by rw[pE.o];rfl,rfl⟩,rfl⟩
          | false=>
           go_wp2;(try simp only[Exit.then]);(try refine Met.intro ?_)
           first
            | (rename_i hJ hM;refine hM _ _ (Met.intro ?_);refine hJ _ _ ?_)
            | (rename_i hJ;refine hJ _ _ ?_)
            | (rename_i hJ hT;refine hJ _ _ ?_)
            | (rename_i hJ hT aW;refine hJ _ _ ?_)
            | (rename_i hJ hT aW cH;refine hJ _ _ ?_)
           (repeat apply Exists.intro);exact⟨⟨by rw[pE.o];rfl,rfl⟩,rfl⟩
        | false=>
         go_wp2;(try simp only[Exit.then]);(try refine Met.intro ?_)
         first
          | (rename_i hJ hM;refine hM _ _ (Met.intro ?_);refine hJ _ _ ?_)
          | (rename_i hJ;refine hJ _ _ ?_)
          | (rename_i hJ hT;refine hJ _ _ ?_)
          | (rename_i hJ hT aW;refine hJ _ _ ?_)
          | (rename_i hJ hT aW cH;refine hJ _ _ ?_)
         (repeat apply Exists.intro);exact⟨⟨by rw[pE.o];rfl,rfl⟩,rfl⟩
       | false=>
        cases a4 with
        | true=>
         go_wp2;(try simp only[Exit.then]);(try refine Met.intro ?_)
         first
          | (rename_i hJ hM;refine hM _ _ (Met.intro ?_);refine hJ _ _ ?_)
          | (rename_i hJ;refine hJ _ _ ?_)
          | (rename_i hJ hT;refine hJ _ _ ?_)
          | (rename_i hJ hT aW;refine hJ _ _ ?_)
          | (rename_i hJ hT aW cH;refine hJ _ _ ?_)
         (repeat apply Exists.intro);exact⟨⟨by rw[pE.o];rfl,rfl⟩,rfl⟩
        | false=>
         cases a5 with
         | true=>
          go_wp2;(try simp only[Exit.then]);(try refine Met.intro ?_)
          first
           | (rename_i hJ hM;refine hM _ _ (Met.intro ?_);refine hJ _ _ ?_)
           | (rename_i hJ;refine hJ _ _ ?_)
           | (rename_i hJ hT;refine hJ _ _ ?_)
           | (rename_i hJ hT aW;refine hJ _ _ ?_)
           | (rename_i hJ hT aW cH;refine hJ _ _ ?_)
          (repeat apply Exists.intro);exact⟨⟨by rw[pE.o];rfl,rfl⟩,rfl⟩
         | false=>
          cases a6 with
          | true=>
           go_wp2;(try simp only[Exit.then]);(try refine Met.intro ?_)
           first
            | (rename_i hJ hM;refine hM _ _ (Met.intro ?_);refine hJ _ _ ?_)
            | (rename_i hJ;refine hJ _ _ ?_)
            | (rename_i hJ hT;refine hJ _ _ ?_)
            | (rename_i hJ hT aW;refine hJ _ _ ?_)
            | (rename_i hJ hT aW cH;refine hJ _ _ ?_)
           (repeat apply Exists.intro);exact⟨⟨by rw[pE.o];rfl,rfl⟩,rfl⟩
          | false=>
           go_wp2;(try simp only[Exit.then]);(try refine Met.intro ?_)
           first
            | (rename_i hJ hM;refine hM _ _ (Met.intro ?_);refine hJ _ _ ?_)
            | (rename_i hJ;refine hJ _ _ ?_)
            | (rename_i hJ hT;refine hJ _ _ ?_)
            | (rename_i hJ hT aW;refine hJ _ _ ?_)
            | (rename_i hJ hT aW cH;refine hJ _ _ ?_)
           (repeat apply Exists.intro);exact⟨⟨by rw[pE.o];rfl,rfl⟩,rfl⟩
    case rest=>
     obtain⟨rfl,hwc⟩:=hcut;have agr:=hwc.symm;clear hwc;subst agr;obtain⟨my,iq⟩:∃my,wS p u=my:=⟨_,rfl⟩;have HM:=ap iq;rw[iq];clear iq
     cases my with
     | true=>
      have c1:=I2.o.c1;have f1:=I2.o.f1;have pP:=I2.o.blk.lt;have HX:=ap (ae.new w2 187 #[.string (aa p),.string (aa u)]);obtain⟨m,hm⟩:∃m,(declared st.scope (ss.take k)).length=m:=⟨_,rfl⟩;have OS:=ap I2.o.s;dsimp only at c1 OS;rw[hm] at c1 OS;have Hm:=ap hm;have eV:=ap (show m≤200000000 by rw[←hm];exact sM.o);clear hm
      go_wp2_with (at_builtin;go_loud (refine su (w2.alloc (.cells #[.string (aa p),.string (aa u)] 187)) rfl (.tmp 62) (.tmp 66) 104 rfl B 187 _ 2 32 Tryz.underlying104 VO rfl (by omega) (.slice _ m _) m _ rfl (OS.o.alloc _) [.string (aa p),.string (aa u)] rfl (YS _ _) w2.heap.size HX.o rfl (by unfold maxLen;have:=eV.o;omega) (by have:=eV.o;omega) (by have:=Aj.o;simp;omega) ?_);intro g8 dw w8 aP aG cX;have rI:cg B 187 w2 w8:=(cg.b8 (ay _ _)).trans (.grown aG fun j hj=>aD (OS.o.alloc _) j hj);have q8:w8.cell? ⟨P,1,none⟩=some _:=(rI.blk I2.o.blk (by decide)).cell 1;have fr8:=(rI.blk I2.o.blk (by decide)).frozen 1;have zM:=ap rI;have cU:=ap aP;clear rI aP aG cX)
      go_roundg (n-(k+1))
      case measure=>have:=Hg.o;omega
      case rel=>
       have hlen:(declared st.scope (ss.take (k+1))).length=m+1:=by rw[bt.o];simp only[if_true,List.length_append,Hm.o];rfl
       have ho:w8.ownsRow B 187 2 (.slice (some ⟨g8,0,none⟩) (declared st.scope (ss.take (k+1))).length dw) (declared st.scope (ss.take (k+1))).length (aM (declared st.scope (ss.take (k+1)))):=by
        rw[hlen,bt.o];simp only[if_true];rw[SA];exact cU.o
       have hI:=I2.o.X9 zM.o ho;rw[hlen] at hI;rw[show cW (iO (ss.take k))=cW (iO (ss.take (k+1))) by rw[a8.o,HM.o];simp] at hI;exact⟨k+1,_,rfl,by omega,by first|rfl|go_num,hI,(M2.o.trans (.WS zM.o (by simp))).X8 (p:=⟨P,1,none⟩) (.inl rfl) _,uD.o⟩
     | false=>
      have HW:=ap (uA B P w2 _ _ _ s.at_ 50 I2.o Aj.o)
      go_wp2_with fail
      refine HW.o.mono ?_;rintro e w3 ⟨wZ,rfl,h1,h2⟩;have I3:=ap h1;have M3:=ap (M2.o.trans (.fl h2));have Ed:=ap (Nat.le_trans Aj.o h2.size);clear h1 h2;have c1:=I3.o.c1;have f1:=I3.o.f1;have pP:=I3.o.blk.lt;have HX:=ap (ae.new w3 187 #[.string (aa p),.string (aa u)]);obtain⟨m,hm⟩:∃m,(declared st.scope (ss.take k)).length=m:=⟨_,rfl⟩;have OS:=ap I3.o.s;dsimp only at c1 OS;rw[hm] at c1 OS;have Hm:=ap hm;have eV:=ap (show m≤200000000 by rw[←hm];exact sM.o);clear hm
      go_wp2_with (at_builtin;go_loud (refine su (w3.alloc (.cells #[.string (aa p),.string (aa u)] 187)) rfl (.tmp 62) (.tmp 66) 104 rfl B 187 _ 2 32 Tryz.underlying104 VO rfl (by omega) (.slice _ m _) m _ rfl (OS.o.alloc _) [.string (aa p),.string (aa u)] rfl (YS _ _) w3.heap.size HX.o rfl (by unfold maxLen;have:=eV.o;omega) (by have:=eV.o;omega) (by have:=Ed.o;simp;omega) ?_);intro g8 dw w8 aP aG cX;have rI:cg B 187 w3 w8:=(cg.b8 (ay _ _)).trans (.grown aG fun j hj=>aD (OS.o.alloc _) j hj);have q8:w8.cell? ⟨P,1,none⟩=some _:=(rI.blk I3.o.blk (by decide)).cell 1;have fr8:=(rI.blk I3.o.blk (by decide)).frozen 1;have zM:=ap rI;have cU:=ap aP;clear rI aP aG cX)
      go_roundg (n-(k+1))
      case measure=>have:=Hg.o;omega
      case rel=>
       have hlen:(declared st.scope (ss.take (k+1))).length=m+1:=by rw[bt.o];simp only[if_true,List.length_append,Hm.o];rfl
       have ho:w8.ownsRow B 187 2 (.slice (some ⟨g8,0,none⟩) (declared st.scope (ss.take (k+1))).length dw) (declared st.scope (ss.take (k+1))).length (aM (declared st.scope (ss.take (k+1)))):=by
        rw[hlen,bt.o];simp only[if_true];rw[SA];exact cU.o
       have hI:=I3.o.X9 zM.o ho;rw[hlen] at hI;rw[show za (cW (iO (ss.take k))) s.at_ 50=cW (iO (ss.take (k+1))) by rw[a8.o,HM.o,Gz];simp] at hI;exact⟨k+1,_,rfl,by omega,by first|rfl|go_num,hI,(M3.o.trans (.WS zM.o (by simp))).X8 (p:=⟨P,1,none⟩) (.inl rfl) _,uD.o⟩
  have hall:k=n:=by omega
  subst hall;have e1:ss.take k=ss:=List.take_of_length_le (by rw[HN.o];exact Nat.le_refl _);have I:=ap H1.o;rw[e1] at I;clear e1;go_wp2;go_end0;exact⟨vr,rfl,I.o,H3.o,uD.o⟩
end
end Go.Proofs.YtpdkeckeekchlaaGreatDoor
