/- Strict: an event behind others: the program's put. And more. -/
import Derived.Test.YtpdkeckeekchlaaGreatDoorOt12
import Derived.Deep.RegionWith
set_option linter.unusedSimpArgs false
set_option maxHeartbeats 16000000
set_option linter.unusedVariables false
namespace Go.Proofs.YtpdkeckeekchlaaGreatDoor
section
open Go.RowKit Tk Sx

structure cg(B t:Nat)(w w':World):Prop where
 os:w'.os=w.os
 tape:w'.tape=w.tape
 output:w'.output=w.output
 size:w.heap.size≤w'.heap.size
 block:∀k,k<w.heap.size→¬(B≤k∧bN w k t)→w'.heap[k]?=w.heap[k]?
section
variable {B P t:Nat} {w w1 w':World}
theorem cg.trans(h:cg B t w w1)(k:cg B t w1 w'):cg B t w w':=by
 refine⟨k.os.trans h.os,k.tape.trans h.tape,k.output.trans h.output,Nat.le_trans h.size k.size,fun i hi hn=>?_⟩;have e:=h.block i hi hn;rw[k.block i (Nat.lt_of_lt_of_le hi h.size) ?_,e];rintro ⟨h1,h2⟩;exact hn ⟨h1,Ci h2 e.symm⟩
theorem cg.b8(h:Below w.heap.size w w'):cg B t w w':=⟨h.os,h.tape,h.output,h.size,fun k hk _=>h.block k hk⟩
theorem cg.grown{row:Option Nat}(hg:w.grownBy w' row)(hr:∀k,row=some k→B≤k∧bN w k t):cg B t w w' :=
 ⟨hg.os,hg.tape,hg.output,hg.size,fun k h1 hn=>hg.block k h1 (fun e=>hn (hr k e.symm))⟩
theorem cg.set{p:Addr}(hp:B≤p.block∧bN w p.block t)(u:Value):cg B t w (w.setCell p u):=by
 refine⟨rfl,rfl,rfl,by simp[World.setCell],fun k hk hn=>Below.heap_setCell _ _ _ _ (by rintro rfl;exact hn hp)⟩
theorem cg.blk{g t':Nat}{cs:Array Value}(h:cg B t w w')(hg:ae w g t' cs)(ht:t'≠t):ae w' g t' cs :=
 (h.block g hg.lt (fun hh=>gV hg.fh hh.2 ht)).trans hg
theorem cg.own{b e size n:Nat}{v:Value}{xs:List Value}(h:cg B t w w')(ho:w.ownsRow b e size v n xs)(ht:e≠t):w'.ownsRow b e size v n xs:=by
 refine⟨ho.1,?_⟩
 rcases ho.2 with hn|⟨g,cap,cur,rfl,jr,dT,rest⟩
 ·exact .inl hn
 exact .inr ⟨g,cap,cur,rfl,jr,(h.block g (Array.getElem?_eq_some_iff.1 dT).1 (fun hh=>gV ⟨cur,_,dT⟩ hh.2 ht)).trans dT,rest⟩
theorem cg.fZ(h:cg B t w w')(ht:t=140∨t=187∨t=79):aF B P w w':=by
 refine⟨h.os,h.tape,h.output,h.size,fun k hk _ hn=>h.block k hk fun hh=>hn ⟨hh.1,?_⟩⟩
 rcases ht with rfl|rfl|rfl
 ·exact .inl hh.2
 ·exact .inr (.inl hh.2)
 exact .inr (.inr hh.2)
end
theorem Ew.In.um{x:Ew}{B t:Nat}{W W':World}(h:x.In B W)(hm:cg B t W W')(ht:t≠155):x.In B W':=by
 have sa:∀a,x.A=some a→W'.heap[a.block]?=W.heap[a.block]?:=fun a ha=>hm.block _ (h.ta a ha).lt fun hh=>gV (h.ta a ha) hh.2 ht.symm;exact⟨h.a.same sa hm.size,h.va,h.ta.same sa⟩
theorem Ew.In.ar{x y:Ew}{B:Nat}{W:World}(h:x.In B W)(hA:y.A=x.A)(ha:y.e.attrs=x.e.attrs):y.In B W:=⟨by rw[hA,ha];exact h.a,by rw[hA];exact h.va,by rw[hA];exact h.ta⟩
theorem gJ.um{B t:Nat}{w w':World}{b:bS}{v:Value}(h:gJ B w b v)(hm:cg B t w w')(ht:115≠t):gJ B w' b v:=by
 unfold gJ at h ⊢
 cases b with
 | none=>exact h
 | some x=>
  obtain⟨F,h1,h2,h3⟩:=h;exact⟨F,h1,h2,hm.blk h3 ht⟩
theorem vB(a b:L):aa a++aa b=aa (a++b):=by
 apply ByteArray.ext
 apply Array.ext'
 rw[←Array.toList_append]<;>simp[aa]
theorem cg.drew{B t:Nat}{w w1:World}(h:cg B t w w1):cg B t w w1.drew:=⟨h.os,h.tape,h.output,h.size,h.block⟩
theorem EN(x:Ew):(dS x).length=5:=rfl
theorem Kl(x:Ew):∀u∈dS x,u.oneCell'=true:=by
 intro u hu;simp only[dS,List.mem_cons,List.not_mem_nil,or_false] at hu
 rcases hu with rfl|rfl|rfl|rfl|rfl<;>rfl
def qZ(B:Nat)(w:World)(xs:List Ew)(x:Ew)(e:Ending)(w':World):Prop :=
 ∃A c xs',e=.returned (.slice A xs'.length c)∧w'.ownsRow B 79 5 (.slice A xs'.length c) xs'.length (ik xs')∧xs'.map (·.e)=dO (xs.map (·.e)) x.e∧(∀y∈xs',∃z∈xs++[x],y.A=z.A∧y.e.attrs=z.e.attrs)∧cg B 79 w w'
theorem qZ.snoc{B:Nat}{w w8:World}{xs:List Ew}{x:Ew}{g cap c:Nat}{A:Option Addr}{o o':Obj}(hB:B≤w.heap.size)(h:w.ownsRow B 79 5 (.slice A xs.length c) xs.length (ik xs))(hown:w8.ownsRow B 79 5 (.slice (some ⟨g,0,none⟩) (xs.length+1) cap) (xs.length+1) (ik xs++dS x))
  (hgrow:((w.alloc o).alloc o').grownBy w8 (Value.slice A xs.length c).ownBlock) (hp:dO (xs.map (·.e)) x.e=xs.map (·.e)++[x.e]):qZ B w xs x (.returned (.slice (some ⟨g,0,none⟩) (xs.length+1) cap)) w8:=by
 refine⟨some ⟨g,0,none⟩,cap,xs++[x],by rw[List.length_append];rfl,by rw[List.length_append];unfold ik at hown ⊢;rw[Kz];exact hown,by rw[hp,List.map_append];rfl,fun y hy=>⟨y,hy,rfl,rfl⟩,?_⟩;have b2:Below w.heap.size w ((w.alloc o).alloc o'):=((Below.refl _ _).alloc (Nat.le_refl _) o).alloc (by simp) o';exact (cg.b8 b2).trans (.grown hgrow fun k hk=>aD (fo h b2) k hk)
theorem qZ.alx{B n:Nat}{w w8:World}{xs:List Ew}{x:Ew}{g cap c:Nat}{A:Option Addr}{o o':Obj}(hB:B≤w.heap.size)(h:w.ownsRow B 79 5 (.slice A n c) n (ik xs))(hn:xs.length=n)(hown:w8.ownsRow B 79 5 (.slice (some ⟨g,0,none⟩) (n+1) cap) (n+1) (ik xs++dS x))
  (hgrow:((w.alloc o).alloc o').grownBy w8 (Value.slice A n c).ownBlock) (hp:dO (xs.map (·.e)) x.e=xs.map (·.e)++[x.e]):qZ B w xs x (.returned (.slice (some ⟨g,0,none⟩) (n+1) cap)) w8:=by
 subst hn;exact qZ.snoc hB h hown hgrow hp
theorem XE{l:List Ev}{x:Ev}(h:x.kind≠2):dO l x=l++[x]:=by unfold dO;rw[if_pos h]
theorem aju{x:Ev}(h:x.kind=2):dO [] x=if x.text=[] then [] else [x]:=by unfold dO;rw[if_neg (by simpa using h)];rfl
theorem ajw{l:List Ev}{y x:Ev}(h:x.kind=2)(hy:y.kind=2):dO (l++[y]) x=l++[⟨2,y.name,y.attrs,y.text++x.text⟩]:=by unfold dO;rw[if_neg (by simpa using h)];simp[hy]
theorem ajs{l:List Ev}{y x:Ev}(h:x.kind=2)(hy:y.kind≠2):dO (l++[y]) x=if x.text=[] then l++[y] else l++[y]++[x]:=by unfold dO;rw[if_neg (by simpa using h)];simp[hy]

theorem GN(B:Nat)(xs:List Ew)(x:Ew)(A:Option Addr)(c:Nat)(w:World)(h:w.ownsRow B 79 5 (.slice A xs.length c) xs.length (ik xs))(hB:B≤w.heap.size)(hn:xs.length≤1000000000)
  (ht:∀y∈xs,y.e.text.length+x.e.text.length≤1000000000000000000) :
  Calls Tryz.prog 81 #[.slice A xs.length c,.agg #[.int .i8 (x.e.kind:Int),.string (aa x.e.name.ns),.string (aa x.e.name.loc),.slice x.A x.e.attrs.length x.c,.string (aa x.e.text)]] w (qZ B w xs x):=by
 have H:=ap h
 have HX:=ap (show ae ((w.alloc (.cells (dS x).toArray 79)).alloc (.cells (dS x).toArray 79)) (w.heap.size+1) 79 (dS x).toArray by
  have:=ae.new (w.alloc (.cells (dS x).toArray 79)) 79 (dS x).toArray;rwa[World.size_alloc] at this)
 have yn:((aa x.e.text).toList==([]:L))=decide (x.e.text=[]):=kL (aa x.e.text) [];have tK:(aa x.e.text).toList.isEmpty=decide (x.e.text=[]):=by rw[ByteArray.toList_eq,aZ];cases x.e.text<;>simp
 by_cases hk:x.e.kind=2
 ·have bu:((x.e.kind:Int) != 2)=false:=by rw[hk];rfl
  rcases List.eq_nil_or_concat xs with hx|⟨ys,y,hx⟩
  ·have Hp:=ap (show dO (xs.map (·.e)) x.e=if x.e.text=[] then [] else [x.e] by rw[hx];exact aju hk);subst hx
   cases he:decide (x.e.text=[]) with
   | true=>
    rw[he] at yn tK;have Hq:=ap (show dO (([]:List Ew).map (·.e)) x.e=[] by rw[Hp.o,if_pos (of_decide_eq_true he)]);clear hk h ht he;have qw:=ap hB;clear hn hB
    go_enter Tryz.func81,Tryz.ntmps81
    go_wp2;go_ret;exact⟨A,c,[],rfl,fo H.o (ay _ _),Hq.o.symm,(fun y hy=>by cases hy),cg.b8 (ay _ _)⟩
   | false=>
    rw[he] at yn tK;have Hq:=ap (show dO (([]:List Ew).map (·.e)) x.e=([]:List Ew).map (·.e)++[x.e] by rw[Hp.o,if_neg (of_decide_eq_false he)];rfl);clear hk h ht he;have qw:=ap hB;clear hn hB
    go_enter Tryz.func81,Tryz.ntmps81
    go_wp2_with (at_builtin;go_loud (refine su ((w.alloc (.cells (dS x).toArray 79)).alloc (.cells (dS x).toArray 79)) rfl (.tmp 39) (.tmp 41) 68 rfl B 79 _ 5 80 Tryz.underlying68 MF rfl (by omega) (.slice A 0 c) 0 [] rfl ((H.o.alloc _).alloc _) (dS x) rfl (Kl x) (w.heap.size+1) HX.o rfl (by unfold maxLen;omega) (by omega) (by have:=qw.o;simp;omega) ?_);intro g cap w8 aP aG cX)
    go_ret;exact qZ.snoc qw.o H.o (by assumption) (by assumption) Hq.o
  rw[List.concat_eq_append] at hx;obtain⟨m,hm⟩:∃m,ys.length=m:=⟨_,rfl⟩;have hl:xs.length=m+1:=by rw[hx,←hm];simp
  obtain⟨g,cap,hv,dG,hlt⟩:=h.form (by omega);cases hv
  have jI:∀j,j<5→w.cell? ⟨g,m*5+j,none⟩=(dS y)[j]?:=fun j hj=>by
   rw[h.cellAt (m*5+j) (by omega)];unfold ik;rw[xW EN xs m (by omega) j hj];congr 2;simp only[hx];rw[List.getElem_append_right (by omega)];simp[hm]
  have c0:w.cell? ⟨g,m*5,none⟩=some (.int .i8 (y.e.kind:Int)):=jI 0 (by omega);have c4:w.cell? ⟨g,m*5+4,none⟩=some (.string (aa y.e.text)):=jI 4 (by omega);have f4:=h.frozenAt (m*5+4);have ht:=ht y (by rw[hx];simp);obtain⟨n,bC⟩:∃n,xs.length=n:=⟨_,rfl⟩;have jN:IntKind.i64.wrap ((n:Int)-1)=(m:Int):=by rw[IntWalk.i64_in _ (by omega)];omega
  have wC:m<n:=by omega
  rw[bC] at H ⊢;have HL:=ap bC;have HN:=ap bC;have fP:=ap hx;have Hm:=ap hm;have Hn:=ap (show n≤1000000000 by omega);have qw:=ap hB;clear h hn hB hl bC hx hm jI
  by_cases hy:y.e.kind=2
  ·have hy2:((y.e.kind:Int)==2)=true:=by rw[hy];rfl
   have Ht:=ap ht;have Hq:=ap (show dO (xs.map (·.e)) x.e=ys.map (·.e)++[⟨2,y.e.name,y.e.attrs,y.e.text++x.e.text⟩] by rw[fP.o,List.map_append,List.map_cons,List.map_nil,ajw hk hy]);have Hk:=ap hk;have Hy:=ap hy;clear hk hy ht yn tK
   go_enter Tryz.func81,Tryz.ntmps81
   go_wp2;obtain⟨W,hW⟩:∃W,w.alloc (.cells #[.int .i8 (x.e.kind:Int),.string (aa x.e.name.ns),.string (aa x.e.name.loc),.slice x.A x.e.attrs.length x.c,.string (aa x.e.text)] 79)=W:=⟨_,rfl⟩;rw[hW];have vX:Below w.heap.size w W:=by rw[←hW];exact ay _ _
   have d4:W.cell? ⟨w.heap.size,4,none⟩=some (.string (aa x.e.text)):=by rw[←hW];exact (ae.new w 79 #[.int .i8 (x.e.kind:Int),.string (aa x.e.name.ns),.string (aa x.e.name.loc),.slice x.A x.e.attrs.length x.c,.string (aa x.e.text)]).cell 4
   replace c4:W.cell? ⟨g,m*5+4,none⟩=some (.string (aa y.e.text)):=(vX.cell (p:=⟨g,m*5+4,none⟩) hlt).trans c4;replace f4:W.frozen? ⟨g,m*5+4,none⟩=false:=(vX.frozen (p:=⟨g,m*5+4,none⟩) hlt).trans f4;have m1:¬9223372036854775807<(aa y.e.text).size+(aa x.e.text).size:=by rw[aO,aO];have:=Ht.o;omega
   have OW:=ap (fo H.o vX);have BW:=ap vX;clear vX hW
   go_region
   all_goals
    go_wp2;go_ret;refine⟨some ⟨g,0,none⟩,c,ys++[⟨⟨2,y.e.name,y.e.attrs,y.e.text++x.e.text⟩,y.A,y.c⟩],?_,?_,?_,?_,?_⟩
    ·rw[←HN.o,fP.o,List.length_append,List.length_append];rfl
    ·have h:=(OW.o.stored (m*5+4) (.string (aa y.e.text++aa x.e.text))).1
     have e1:(ik xs).set (m*5+4) (.string (aa y.e.text++aa x.e.text))=ik (ys++[⟨⟨2,y.e.name,y.e.attrs,y.e.text++x.e.text⟩,y.A,y.c⟩]):=by
      rw[fP.o];unfold ik;rw[Kz,Kz,List.set_append_right _ _ (by rw[vH EN,Hm.o];omega),vH EN,Hm.o,Nat.add_sub_cancel_left,vB];show _++_=_++_;unfold dS;rw[Hy.o];rfl
     rw[e1] at h;have e2:(ys++[(⟨⟨2,y.e.name,y.e.attrs,y.e.text++x.e.text⟩,y.A,y.c⟩:Ew)]).length=n:=by rw[←HN.o,fP.o,List.length_append,List.length_append];rfl
     rw[e2];exact h
    ·rw[Hq.o,List.map_append];rfl
    ·intro z hz
     rcases List.mem_append.1 hz with hz|hz
     ·exact⟨z,by rw[fP.o];simp[hz],rfl,rfl⟩
     simp only[List.mem_singleton] at hz;subst hz;exact⟨y,by rw[fP.o];simp,rfl,rfl⟩
    exact ((cg.b8 BW.o).trans (cg.set (p:=⟨g,m*5+4,none⟩) ⟨dG,(aD OW.o g rfl).2⟩ _)).drew
  have hy2:((y.e.kind:Int)==2)=false:=by rw[beq_eq_false_iff_ne];omega
  have Hp:=ap (ajs (l:=ys.map (·.e)) hk hy)
  cases he:decide (x.e.text=[]) with
  | true=>
   rw[he] at yn tK;have Hq:=ap (show dO (xs.map (·.e)) x.e=xs.map (·.e) by rw[fP.o,List.map_append,List.map_cons,List.map_nil,Hp.o,if_pos (of_decide_eq_true he)]);clear hk ht he hy
   go_enter Tryz.func81,Tryz.ntmps81
   go_wp2;go_ret;exact⟨_,_,xs,by rw[HN.o];rfl,by rw[HN.o];exact fo H.o (ay _ _),Hq.o.symm,(fun z hz=>⟨z,List.mem_append_left _ hz,rfl,rfl⟩),cg.b8 (ay _ _)⟩
  | false=>
   rw[he] at yn tK;have Hq:=ap (show dO (xs.map (·.e)) x.e=xs.map (·.e)++[x.e] by rw[fP.o,List.map_append,List.map_cons,List.map_nil,Hp.o,if_neg (of_decide_eq_false he)]);clear hk ht he hy
   go_enter Tryz.func81,Tryz.ntmps81
   go_wp2_with (at_builtin;go_loud (refine su ((w.alloc (.cells (dS x).toArray 79)).alloc (.cells (dS x).toArray 79)) rfl (.tmp 39) (.tmp 41) 68 rfl B 79 _ 5 80 Tryz.underlying68 MF rfl (by omega) (.slice (some ⟨g,0,none⟩) n c) n (ik xs) rfl ((H.o.alloc _).alloc _) (dS x) rfl (Kl x) (w.heap.size+1) HX.o rfl (by unfold maxLen;have:=Hn.o;omega) (by have:=Hn.o;omega) (by have:=qw.o;simp;omega) ?_);intro g2 cap w8 aP aG cX)
   go_ret;exact qZ.alx qw.o H.o HL.o (by assumption) (by assumption) Hq.o
 have bu:((x.e.kind:Int) != 2)=true:=by rw[bne_iff_ne];omega
 have Hp:=ap (XE (l:=xs.map (·.e)) hk);have Hn:=ap hn;have qw:=ap hB;clear hk h yn tK ht hn hB
 go_enter Tryz.func81,Tryz.ntmps81
 go_wp2_with (at_builtin;go_loud (refine su ((w.alloc (.cells (dS x).toArray 79)).alloc (.cells (dS x).toArray 79)) rfl (.tmp 9) (.tmp 11) 68 rfl B 79 _ 5 80 Tryz.underlying68 MF rfl (by omega) (.slice A xs.length c) xs.length (ik xs) rfl ((H.o.alloc _).alloc _) (dS x) rfl (Kl x) (w.heap.size+1) HX.o rfl (by unfold maxLen;have:=Hn.o;omega) (by have:=Hn.o;omega) (by have:=qw.o;simp;omega) ?_);intro g cap w8 aP aG cX)
 go_ret;exact qZ.snoc qw.o H.o (by assumption) (by assumption) Hp.o
end
section
open Go.RowKit Tk

end
section
open Go.RowKit Tk Sx

theorem ac2(c:UInt8)(w:World):Calls Tryz.prog 119 #[.int .i64 (c.toNat:Nat)] w fun e w'=>e=.returned (.bool (sp c))∧w'=w:=by
 have key:∀d:UInt8,((c.toNat:Int)==(d.toNat:Int))=(c==d):=fun d=>by
  rw[Bool.eq_iff_iff,beq_iff_eq,beq_iff_eq];exact⟨fun h=>UInt8.toNat_inj.1 (by omega),fun h=>by rw[h]⟩
 have e1:((c.toNat:Int)==32)=(c==32):=key 32;have e2:((c.toNat:Int)==9)=(c==9):=key 9;have e3:((c.toNat:Int)==10)=(c==10):=key 10;have e4:((c.toNat:Int)==13)=(c==13):=key 13;unfold sp;clear key;generalize (c==32)=a32 at *
 generalize (c==9)=a9 at *
 generalize (c==10)=a10 at *
 generalize (c==13)=a13 at *

 cases a32 with
 | true=>
  go_enter Tryz.func119,Tryz.ntmps119
  go_wp2
  go_ret
  exact⟨aC (aR (by simp)),rfl⟩
 | false=>
  cases a9 with
  | true=>
   go_enter Tryz.func119,Tryz.ntmps119
   go_wp2
   go_ret
   exact⟨aC (aR (by simp)),rfl⟩
  | false=>
   cases a10 with
   | true=>
    go_enter Tryz.func119,Tryz.ntmps119
    go_wp2
    go_ret
    exact⟨aC (aR (by simp)),rfl⟩
   | false=>
    cases a13 with
    | true=>
     go_enter Tryz.func119,Tryz.ntmps119
     go_wp2
     go_ret
     exact⟨aC (aR (by simp)),rfl⟩
    | false=>
     go_enter Tryz.func119,Tryz.ntmps119
     go_wp2
     go_ret
     exact⟨aC (aR (by simp)),rfl⟩
theorem acz(D:L)(w:World)(hD:D.length≤1000000000):Calls Tryz.prog 84 #[.string (aa D)] w fun e w'=>e=.returned (.bool (D.all sp))∧Below w.heap.size w w':=by
 have Hs:=ap (aO D);obtain⟨W,g,cap,ny,hb,hg,hat⟩:=Eu (aa D) w;rw[aZ] at hat;have qL:=ap hat;have HB:=ap hb;clear hat hb;obtain⟨z,hz⟩:∃z,D.all sp=z:=⟨_,rfl⟩;have Hz:=ap (show (D.drop 0).all sp=z by rw[List.drop_zero,hz]);rw[hz];clear hz
 go_enter Tryz.func84,Tryz.ntmps84
 go_wp2;clear ny
 go_loopg [8] (aa D).size (fun gk v wr=>∃k:Nat,gk=(aa D).size-k∧k≤(aa D).size∧v=.int .i64 (k:Int)∧(D.drop k).all sp=z∧wr=W)
 case atStart=>exact⟨0,rfl,by omega,rfl,Hz.o,rfl⟩
 case round=>
  obtain⟨k,au,hk,rfl,qj,rfl⟩:=hrel;have Hg:=ap au;have j7:=ap qj;clear au qj Hz
  by_cases hlt:k<(aa D).size
  ·obtain⟨c,hc⟩:∃c,D[k]?=some c:=⟨_,List.getElem?_eq_getElem (by rw[←Hs.o];exact hlt)⟩;have hcell:=qL.o k c hc;have iT:(0:Int)≤(k:Int):=by omega
   have hcw:IntKind.i64.wrap (c.toNat:Int)=(c.toNat:Int):=IntWalk.i64_in _ (by have:=c.toNat_lt;omega);have wK:IntKind.i64.wrap ((k:Int)+1)=(k:Int)+1:=IntWalk.i64_in _ (by have:=Hs.o;omega);have HS:=ap (ac2 c);have hst:z=(sp c&&(D.drop (k+1)).all sp):=by rw[←j7.o,xR hc,List.all_cons]
   clear hc j7
   cases hsp:sp c with
   | true=>
    rw[hsp] at HS hst;have Hn:=ap (show (D.drop (k+1)).all sp=z by rw[hst,Bool.true_and]);clear hst hsp
    go_wp2_with fail
    refine cq (HS.o _) ?_
    go_wp2
    go_roundg ((aa D).size-(k+1))
    case measure=>have:=Hg.o;omega
    case rel=>exact⟨k+1,rfl,by omega,by first|rfl|go_num,Hn.o,rfl⟩
   | false=>
    rw[hsp] at HS hst;have Hr:=ap (show false=z by rw[hst,Bool.false_and]);clear hst hsp
    go_wp2_with fail
    refine cq (HS.o _) ?_
    go_wp2;go_ret;exact⟨aC (aR Hr.o),HB.o⟩
  have Hr:=ap (show true=z by rw[←j7.o,List.drop_of_length_le (by rw[←Hs.o];omega)];rfl);clear j7;go_wp2;go_ret;exact⟨aC (aR Hr.o),HB.o⟩

end
section
open Go.RowKit Tk Sx

structure Ok(st:St)(n M:Nat):Prop where
 op:st.open_.length≤16
 sc:st.scope.length≤n
 ev:st.evs.length≤n
 tx:∀y∈st.evs,y.text.length≤M
 F4:∀x∈st.open_,x.scope≤st.scope.length
 Yy:st.open_.Pairwise fun a b=>a.scope≤b.scope
theorem px.none{B:Nat}:px B none:=fun a ha=>by cases ha
theorem Typed.none{w:World}{t:Nat}:Typed w none t:=fun a ha=>by cases ha
theorem MD{B:Nat}{W:World}(e:Ev)(h:e.attrs=[])(c:Nat):(Ew.mk e none c).In B W:=⟨by rw[show (Ew.mk e none c).e.attrs=[] from h];exact Reads.none_,.none,.none⟩
theorem PI.events{B P:Nat}{w w1:World}{st:St}{b:bS}{v:Pv}{x:Ew}{xs:List Ew}{A:Option Addr}{c:Nat}(h:PI B P w st b v)(hm:cg B 79 w w1)(ho:w1.ownsRow B 79 5 (.slice A xs.length c) xs.length (ik xs))
  (hx:xs.map (·.e)=dO (v.xs.map (·.e)) x.e) (hi:∀y∈xs,∃z∈v.xs++[x],y.A=z.A∧y.e.attrs=z.e.attrs) (bB:x.In B w) :
  PI B P (w1.setCell ⟨P,2,none⟩ (.slice A xs.length c)) ⟨st.open_,st.scope,dO st.evs x.e,st.gI⟩ b ⟨v.Ao,v.co,v.As,v.cs,A,c,v.vb,xs⟩:=by
 have hb:=hm.blk h.blk (by decide);refine⟨hb.aH 2 _,h.bp,?_,?_,?_,?_,?_,?_⟩
 ·exact dN (p:=⟨P,2,none⟩) (hm.own h.o (by decide)) hb (by decide) _
 ·exact dN (p:=⟨P,2,none⟩) (hm.own h.s (by decide)) hb (by decide) _
 ·exact dN (p:=⟨P,2,none⟩) ho hb (by decide) _
 ·rw[hx,h.ev]
 ·intro y hy;obtain⟨z,hz,h1,h2⟩:=hi y hy
  have hz1:z.In B w1:=by
   rcases List.mem_append.1 hz with hz|hz
   ·exact (h.gU z hz).um hm (by decide)
   simp only[List.mem_singleton] at hz;subst hz;exact bB.um hm (by decide)
  have oU:y.In B w1:=hz1.ar h1 h2;exact oU.fZ ((aF.refl B P w1).setCell (p:=⟨P,2,none⟩) (.inl rfl) _) (tu oU hb)
 have h1:=h.bad.um hm (by decide);exact h1.fZ ((aF.refl B P w1).setCell (p:=⟨P,2,none⟩) (.inl rfl) _) hb (by decide)
def q9(B P:Nat)(w:World)(r:Except (Nat×Nat) St)(e:Ending)(w':World):Prop :=
 e=.returned (.tuple #[])∧aF B P w w'∧match r with
  | .ok st=>∃v,PI B P w' st none v
  | .error x=>∃st v,PI B P w' st (some x) v
structure rb(B:Nat)(w:World)(b o:Nat)(t:Tok):Prop where
 lt:b<B
 c1:w.cell? ⟨b,o+1,none⟩=some (.string (aa t.name))
 c3:w.cell? ⟨b,o+3,none⟩=some (.bool t.empty)
 c4:w.cell? ⟨b,o+4,none⟩=some (.string (aa t.text))
 c5:w.cell? ⟨b,o+5,none⟩=some (.int .i64 (t.at_:Int))
theorem PI.c{B P:Nat}{w:World}{st:St}{b:bS}{v:Pv}(hP:PI B P w st b v):w.cell? ⟨P,0,none⟩=some (.slice v.Ao st.open_.length v.co):=hP.blk.cell 0
theorem PI.c2{B P:Nat}{w:World}{st:St}{b:bS}{v:Pv}(hP:PI B P w st b v):w.cell? ⟨P,2,none⟩=some (.slice v.Ae v.xs.length v.ce):=hP.blk.cell 2
theorem PI.f2{B P:Nat}{w:World}{st:St}{b:bS}{v:Pv}(hP:PI B P w st b v):w.frozen? ⟨P,2,none⟩=false:=hP.blk.frozen 2
theorem PI.tx{B P n M:Nat}{w:World}{st:St}{b:bS}{v:Pv}(hP:PI B P w st b v)(hk:Ok st n M):∀y∈v.xs,y.e.text.length≤M:=fun y hy=>hk.tx _ (by rw[←hP.ev];exact List.mem_map_of_mem hy)

theorem ac9(B P:Nat)(w:World)(st:St)(v:Pv)(b o:Nat)(t:Tok)(h:PI B P w st none v)(hB:B≤w.heap.size)(hk:Ok st 1000000000 100000000000000000)(ht:rb B w b o t)(qi:t.text.length≤100000000) :
  Calls Tryz.prog 52 #[.pointer (some ⟨P,0,none⟩),.pointer (some ⟨b,o,none⟩)] w (q9 B P w (Sx.data st t)):=by
 have c0:=h.c;have c2:=h.c2;have f2:=h.f2;have t4:=ht.c4;have t5:=ht.c5;have H:=ap h;have HB:=ap hB;obtain⟨n,hn⟩:∃n,st.open_.length=n:=⟨_,rfl⟩;rw[hn] at c0
 by_cases h0:st.open_=[]
 ·have oO:n=0:=by rw[←hn,h0];rfl
  have Hr:=ap (show Sx.data st t=.error (t.at_,50) by unfold Sx.data;rw[if_pos h0]);have HW:=ap (pq B P w st none v t.at_ 50 h hB);subst oO;clear h hB hk ht qi hn h0
  go_enter Tryz.func52,Tryz.ntmps52
  go_wp2_with fail
  refine HW.o.mono ?_;rintro e w1 ⟨vb,rfl,h1,h2⟩;have H1:=ap h1;have H2:=ap h2;clear h1 h2;go_wp2;go_end0;rw[Hr.o];exact⟨rfl,H2.o,st,_,H1.o⟩
 have oO:decide ((n:Int)=0)=false:=by rw[decide_eq_false_iff_not];intro e;exact h0 (List.eq_nil_of_length_eq_zero (by omega))
 have pX:((n:Int)==0)=false:=by rw[beq_eq_false_iff_ne];intro e;exact h0 (List.eq_nil_of_length_eq_zero (by omega))
 have Hr:=ap (show Sx.data st t=.ok (GM st t.text) by unfold Sx.data;rw[if_neg h0]);have HP:=ap (GN B v.xs ⟨N7 t.text,none,0⟩ v.Ae v.ce w.drew h.e hB (by rw[h.len];exact hk.ev) (fun y hy=>by have:=h.tx hk y hy;show _+t.text.length≤_;omega));have HK:=ap (show ae w.drew P 107 _ from h.blk);clear h hB hk ht qi hn h0
 go_enter Tryz.func52,Tryz.ntmps52
 go_wp2
 go_region_with (go_at_call 81;refine HP.o.mono ?_;rintro e w1 ⟨A,c,xs,rfl,ho,hx,hi,hm⟩;have q2:w1.cell? ⟨P,2,none⟩=some _:=(hm.blk HK.o (by decide)).cell 2;have g2:=(hm.blk HK.o (by decide)).frozen 2)
 all_goals
  go_end0;rw[Hr.o];exact⟨rfl,(((aF.refl B P w).drew).trans (hm.fZ (by decide))).setCell (p:=⟨P,2,none⟩) (.inl rfl) _,_,(H.o.go (Below.refl _ _).drew).events hm ho hx hi (MD _ rfl _)⟩

theorem Ys:∀(f k:Nat) (l out:L),dm f k l=.ok out→out.length≤4*l.length:=by
 intro f
 induction f with
 | zero=>intro k l out h;rw[dm] at h;cases h;simp
 | succ f ih=>
 intro k l out h
 cases l with
 | nil=>rw[dm] at h;cases h;simp
 | cons c r=>
  by_cases hc:c=38
  ·subst hc
   cases he:ends r with
   | none=>rw[Yt he] at h;cases h
   | some n=>
    have hn:=Kk he
    cases hs:scalar (r.take n) with
    | none=>rw[Yq he hs] at h;cases h
    | some v=>
     rw[Yu he hs] at h
     cases hy:dm f (k+n+2) (r.drop (n+1)) with
     | error a=>rw[hy] at h;cases h
     | ok o=>
      rw[hy] at h;simp only[jm,Except.ok.injEq] at h;subst h;have:=ih _ _ _ hy;have hp:=Ns (v:Int);rw[List.length_drop] at this;rw[List.length_append,List.length_cons];omega
  rw[Yr hc] at h
  cases hy:dm f (k+1) r with
  | error a=>rw[hy] at h;cases h
  | ok o=>
   rw[hy] at h;simp only[jm,Except.ok.injEq] at h;subst h;have:=ih _ _ _ hy;rw[List.length_append,List.length_cons,List.length_cons];simp;omega

theorem ama(B P:Nat)(w:World)(st:St)(v:Pv)(b o:Nat)(t:Tok)(h:PI B P w st none v)(hB:B≤w.heap.size)(hk:Ok st 1000000000 100000000000000000)(ht:rb B w b o t)(qi:t.text.length≤100000) :
  Calls Tryz.prog 51 #[.pointer (some ⟨P,0,none⟩),.pointer (some ⟨b,o,none⟩)] w (q9 B P w (Sx.text st t)):=by
 have t4:=ht.c4;have HS:=ap (NY (aa t.text) w (by rw[aO];exact qi));rw[aZ,aO] at HS;have bO:=ap (fun W=>acz t.text W (by omega));have H:=ap h;have HB:=ap hB;have Ht:=ap ht;have Hk:=ap hk;have Htx:=ap qi;clear hk ht qi;obtain⟨y,hy⟩:∃y,dm t.text.length 0 t.text=y:=⟨_,rfl⟩;rw[hy] at HS;obtain⟨bl,bh⟩:∃bl,t.text.all sp=bl:=⟨_,rfl⟩;rw[bh] at bO;obtain⟨n,hn⟩:∃n,st.open_.length=n:=⟨_,rfl⟩;have HN:=ap hn
 by_cases h0:st.open_=[]
 ·have oO:n=0:=by rw[←hn,h0];rfl
  subst oO
  cases bl with
  | true=>
   have Hr:=ap (show Sx.text st t=.ok st by unfold Sx.text;rw[if_pos h0,if_pos bh]);clear h0 hn bh hy h hB
   cases y with
   | _=>
    unfold iZ at HS
    go_enter Tryz.func51,Tryz.ntmps51
    go_wp2_with fail
    refine HS.o.mono ?_;rintro e w1 ⟨rfl,b1⟩;have H1:=ap (H.o.go b1);have c0:=H1.o.c;rw[HN.o] at c0;have t4':=(b1.cell (p:=⟨b,o+4,none⟩) (by have:=Ht.o.lt;have:=HB.o;show b<_;omega)).trans t4;have M1:=ap (aF.b8 (B:=B) (P:=P) b1);clear b1
    go_wp2_with fail
    refine (bO.o _).mono ?_;rintro e w2 ⟨rfl,b2⟩;have H2:=ap (H1.o.go b2);have M2:=ap (M1.o.go b2);clear b2;go_wp2;go_end0;rw[Hr.o];exact⟨rfl,M2.o,_,H2.o⟩
  | false=>
   have Hr:=ap (show Sx.text st t=.error (t.at_,50) by unfold Sx.text;rw[if_pos h0,if_neg (by rw[bh];simp)]);clear h0 hn bh hy h hB
   cases y with
   | _=>
    unfold iZ at HS
    go_enter Tryz.func51,Tryz.ntmps51
    go_wp2_with fail
    refine HS.o.mono ?_;rintro e w1 ⟨rfl,b1⟩;have H1:=ap (H.o.go b1);have c0:=H1.o.c;rw[HN.o] at c0;have t4':=(b1.cell (p:=⟨b,o+4,none⟩) (by have:=Ht.o.lt;have:=HB.o;show b<_;omega)).trans t4;have M1:=ap (aF.b8 (B:=B) (P:=P) b1);clear b1
    go_wp2_with fail
    refine (bO.o _).mono ?_;rintro e w2 ⟨rfl,b2⟩;have H2:=ap (H1.o.go b2);have M2:=ap (M1.o.go b2);have N5:=((M2.o.below (C:=B) (Nat.le_refl _) H.o.bp HB.o).cell (p:=⟨b,o+5,none⟩) Ht.o.lt).trans Ht.o.c5;have HW:=ap (pq B P w2 st none v t.at_ 50 H2.o (Nat.le_trans HB.o M2.o.size));clear b2
    go_wp2_with fail
    refine HW.o.mono ?_;rintro e w3 ⟨vb,rfl,h1,h2⟩;have H3:=ap h1;have M3:=ap (M2.o.trans h2);clear h1 h2;go_wp2;go_end0;rw[Hr.o];exact⟨rfl,M3.o,_,_,H3.o⟩
 have oO:0<n:=by rw[←hn];exact List.length_pos_iff.2 h0
 cases y with
 | ok s=>
  have Hr:=ap (show Sx.text st t=.ok (GM st s) by unfold Sx.text;rw[if_neg h0,hy]);have Hs:=ap (show s.length≤400000 by have:=Ys _ _ _ _ hy;have:=Htx.o;omega);clear h0 hn bh hy h hB;unfold iZ at HS
  go_enter Tryz.func51,Tryz.ntmps51
  go_wp2_with fail
  refine HS.o.mono ?_;rintro e w1 ⟨rfl,b1⟩;have H1:=ap (H.o.go b1);have c0:=H1.o.c;have c2:=H1.o.c2;rw[HN.o] at c0;have M1:=ap (aF.b8 (B:=B) (P:=P) b1);have HP:=ap (GN B v.xs ⟨N7 s,none,0⟩ v.Ae v.ce w1 H1.o.e (Nat.le_trans HB.o b1.size) (by rw[H1.o.len];exact Hk.o.ev) (fun y hy=>by have:=H1.o.tx Hk.o y hy;have:=Hs.o;show _+s.length≤_;omega));clear b1
  go_wp2_with fail
  refine HP.o.mono ?_;rintro e w2 ⟨A,c,xs,rfl,ho,hx,hi,hm⟩;have q2:w2.cell? ⟨P,2,none⟩=some _:=(hm.blk H1.o.blk (by decide)).cell 2;have g2:=(hm.blk H1.o.blk (by decide)).frozen 2;have H2:=ap (H1.o.events hm ho hx hi (MD _ rfl _));have M2:=ap ((M1.o.trans (hm.fZ (by decide))).setCell (p:=⟨P,2,none⟩) (.inl rfl) (.slice A xs.length c));clear ho hx hi hm;go_wp2;go_end0;rw[Hr.o];exact⟨rfl,M2.o,_,H2.o⟩
 | error a=>
  have Hr:=ap (show Sx.text st t=.error (t.at_,50) by unfold Sx.text;rw[if_neg h0,hy]);clear h0 hn bh hy h hB;unfold iZ at HS
  go_enter Tryz.func51,Tryz.ntmps51
  go_wp2_with fail
  refine HS.o.mono ?_;rintro e w1 ⟨rfl,b1⟩;have H1:=ap (H.o.go b1);have c0:=H1.o.c;rw[HN.o] at c0;have N5:=(b1.cell (p:=⟨b,o+5,none⟩) (by have:=Ht.o.lt;have:=HB.o;show b<_;omega)).trans Ht.o.c5;have M1:=ap (aF.b8 (B:=B) (P:=P) b1);have HW:=ap (pq B P w1 st none v t.at_ 50 H1.o (Nat.le_trans HB.o b1.size));clear b1
  go_wp2_with fail
  refine HW.o.mono ?_;rintro e w3 ⟨vb,rfl,h1,h2⟩;have H3:=ap h1;have M3:=ap (M1.o.trans h2);clear h1 h2;go_wp2;go_end0;rw[Hr.o];exact⟨rfl,M3.o,_,_,H3.o⟩
end
section
open Go.RowKit Tk Sx

section
variable {B P:Nat} {w:World} {st:St} {b:bS} {v:Pv}
theorem PI.c1(hP:PI B P w st b v):w.cell? ⟨P,1,none⟩=some (.slice v.As st.scope.length v.cs):=hP.blk.cell 1
theorem PI.f0(hP:PI B P w st b v):w.frozen? ⟨P,0,none⟩=false:=hP.blk.frozen 0
theorem PI.f1(hP:PI B P w st b v):w.frozen? ⟨P,1,none⟩=false:=hP.blk.frozen 1
theorem PI.ac4(h:PI B P w st b v){k:Nat}(hk:k≤st.open_.length):PI B P (w.setCell ⟨P,0,none⟩ (.slice v.Ao k v.co)) ⟨st.open_.take k,st.scope,st.evs,st.gI⟩ b v:=by
 have hl:(st.open_.take k).length=k:=by rw[List.length_take];omega
 refine⟨?_,h.bp,?_,dN (p:=⟨P,0,none⟩) h.s h.blk (by decide) _,dN (p:=⟨P,0,none⟩) h.e h.blk (by decide) _,h.ev,fun x hx=>(h.gU x hx).fZ ((aF.refl B P w).setCell (p:=⟨P,0,none⟩) (.inl rfl) _) (tu (h.gU x hx) h.blk),
  h.bad.fZ ((aF.refl B P w).setCell (p:=⟨P,0,none⟩) (.inl rfl) _) h.blk (by decide)⟩
 ·have:=h.blk.aH 0 (.slice v.Ao k v.co);unfold CI at this ⊢;dsimp only;rw[hl];exact this
 dsimp only;rw[hl];have:=dN (p:=⟨P,0,none⟩) (Xh h.o hk) h.blk (by decide) (.slice v.Ao k v.co);unfold els;rw[KA (m:=4) (fun _=>rfl)];exact this
theorem PI.ac5(h:PI B P w st b v){k:Nat}(hk:k≤st.scope.length):PI B P (w.setCell ⟨P,1,none⟩ (.slice v.As k v.cs)) ⟨st.open_,st.scope.take k,st.evs,st.gI⟩ b v:=by
 have hl:(st.scope.take k).length=k:=by rw[List.length_take];omega
 refine⟨?_,h.bp,dN (p:=⟨P,1,none⟩) h.o h.blk (by decide) _,?_,dN (p:=⟨P,1,none⟩) h.e h.blk (by decide) _,h.ev,fun x hx=>(h.gU x hx).fZ ((aF.refl B P w).setCell (p:=⟨P,1,none⟩) (.inl rfl) _) (tu (h.gU x hx) h.blk),
  h.bad.fZ ((aF.refl B P w).setCell (p:=⟨P,1,none⟩) (.inl rfl) _) h.blk (by decide)⟩
 ·have:=h.blk.aH 1 (.slice v.As k v.cs);unfold CI at this ⊢;dsimp only;rw[hl];exact this
 dsimp only;rw[hl];have:=dN (p:=⟨P,1,none⟩) (Xh h.s hk) h.blk (by decide) (.slice v.As k v.cs);unfold aM;rw[KA (m:=2) (fun _=>rfl)];exact this
end
def OZ(B P:Nat)(w:World)(st:St)(b:bS)(e:Ending)(w':World):Prop:=e=.returned (.tuple #[])∧aF B P w w'∧∃v,PI B P w' (rp st) b v
theorem SJ{w:World}{B g c n m:Nat}{l:List El}{x:El}(h:w.ownsRow B 140 4 (.slice (some ⟨g,0,none⟩) n c) n (els l))(hn:l.length=n)(hx:l[m]?=some x):∀j,j<4→w.cell? ⟨g,m*4+j,none⟩=(oA x)[j]?:=fun j hj=>by
 obtain⟨h1,h2⟩:=List.getElem?_eq_some_iff.1 hx;rw[h.cellAt (m*4+j) (by omega)];unfold els;rw[xW (m:=4) (fun _=>rfl) l m h1 j hj,h2]

theorem X5(B P:Nat)(w:World)(st:St)(bd:bS)(v:Pv)(h:PI B P w st bd v)(hB:B≤w.heap.size)(hk:Ok st 1000000000 100000000000000000)(hne:st.open_≠[]) :
  Calls Tryz.prog 82 #[.pointer (some ⟨P,0,none⟩)] w (OZ B P w st bd):=by
 obtain⟨x,hx⟩:∃x,st.open_.getLast?=some x:=by
  cases hl:st.open_.getLast? with
  | none=>exact absurd (List.getLast?_eq_none_iff.1 hl) hne
  | some x=>exact⟨x,rfl⟩
 obtain⟨m,hm⟩:∃m,st.open_.length=m+1:=⟨st.open_.length-1,by have:=List.length_pos_iff.2 hne;omega⟩;have dV:st.open_[m]?=some x:=by rw[List.getLast?_eq_getElem?,hm] at hx;simpa using hx
 have hsc:=hk.F4 x (List.mem_of_getElem? dV)
 have Hr:=ap (show rp st=⟨st.open_.take m,st.scope.take x.scope,dO st.evs ⟨1,x.name,[],[]⟩,st.gI⟩ by
  unfold rp;rw[hx];dsimp only;rw[List.dropLast_eq_take,hm,Nat.add_sub_cancel])
 have H:=ap h;have HB:=ap hB;have ho:=h.o;rw[hm] at ho;obtain⟨g,cap,hv,dG,hlt⟩:=ho.form (by omega);have nu:v.Ao=some ⟨g,0,none⟩:=by injection hv
 rw[nu] at ho;have hce:=SJ ho hm dV;have d0:w.cell? ⟨g,m*4,none⟩=some (.string (aa x.written)):=hce 0 (by omega);have d1:w.cell? ⟨g,m*4+1,none⟩=some (.string (aa x.name.ns)):=hce 1 (by omega);have d2:w.cell? ⟨g,m*4+2,none⟩=some (.string (aa x.name.loc)):=hce 2 (by omega);have d3:w.cell? ⟨g,m*4+3,none⟩=some (.int .i64 (x.scope:Int)):=hce 3 (by omega);have c0:=h.c;rw[hm,nu] at c0;have pP:=h.blk.lt;have iQ:=zf ho;have hcs:=zf h.s;obtain⟨n,hn⟩:∃n,m+1=n:=⟨_,rfl⟩;rw[hn] at c0 iQ;have jN:IntKind.i64.wrap ((n:Int)-1)=(m:Int):=by rw[IntWalk.i64_in _ (by have:=hk.op;omega)];omega
 have wC:m<n:=by omega
 have HN:=ap hn;have Hm:=ap hm;have Hk:=ap hk;have lh:=ap hsc;have uD:=ap nu;clear h hB hk hne hx hm dV hsc ho hv nu hce hn
 go_enter Tryz.func82,Tryz.ntmps82
 go_wp2;have k:=ae.new w 140 #[.string (aa x.written),.string (aa x.name.ns),.string (aa x.name.loc),.int .i64 (x.scope:Int)];have pQ:=ay w (.cells #[.string (aa x.written),.string (aa x.name.ns),.string (aa x.name.loc),.int .i64 (x.scope:Int)] 140);obtain⟨W,hW⟩:∃W,w.alloc (.cells #[.string (aa x.written),.string (aa x.name.ns),.string (aa x.name.loc),.int .i64 (x.scope:Int)] 140)=W:=⟨_,rfl⟩;obtain⟨E,hE⟩:∃E,w.heap.size=E:=⟨_,rfl⟩;rw[hW] at k pQ ⊢;rw[hE] at k pP ⊢;have HW:=ap (H.o.go pQ);have K:=ap k;have c0':W.cell? ⟨P,0,none⟩=some (.slice (some ⟨g,0,none⟩) n v.co):=by rw[HW.o.c,uD.o,Hm.o,HN.o]
 have c1':=HW.o.c1;have f0':=HW.o.f0;have f1':=HW.o.f1;have e3:W.cell? ⟨E,3,none⟩=some (.int .i64 (x.scope:Int)):=k.cell 3;have hne:P≠E:=by omega
 have BA:=ap pQ;have HE:=ap hE;have jq:(0:Int)≤(m:Int)∧(m:Int)≤(v.co:Int):=by omega
 have aN:(0:Int)≤(x.scope:Int)∧(x.scope:Int)≤(v.cs:Int):=by have:=lh.o;omega
 clear k hW c0 d0 d1 d2 d3 hE
 go_region
 have Ic:=HW.o.ac4 (k:=m) (by rw[Hm.o];omega);rw[uD.o] at Ic;have uC:=(Ic.ac5 (k:=x.scope) lh.o).go (Below.refl _ _).drew;have Eg:=(((aF.b8 BA.o:aF B P w W).setCell (p:=⟨P,0,none⟩) (.inl rfl) (.slice (some ⟨g,0,none⟩) m v.co)).setCell (p:=⟨P,1,none⟩) (.inl rfl) (.slice v.As x.scope v.cs)).drew;have K2:ae ((W.setCell ⟨P,0,none⟩ (.slice (some ⟨g,0,none⟩) m v.co)).setCell ⟨P,1,none⟩ (.slice v.As x.scope v.cs)).drew E 140 _:=(K.o.far (p:=⟨P,0,none⟩) hne.symm _).far (p:=⟨P,1,none⟩) hne.symm _;obtain⟨W2,rA⟩:∃W2,((W.setCell ⟨P,0,none⟩ (.slice (some ⟨g,0,none⟩) m v.co)).setCell ⟨P,1,none⟩ (.slice v.As x.scope v.cs)).drew=W2:=⟨_,rfl⟩;rw[rA] at uC Eg K2 ⊢;have H2:=ap uC;have M2:=ap Eg;have c2:=uC.c2;have x1:W2.cell? ⟨E,1,none⟩=some (.string (aa x.name.ns)):=K2.cell 1;have x2:W2.cell? ⟨E,2,none⟩=some (.string (aa x.name.loc)):=K2.cell 2;have HP:=ap (GN B v.xs ⟨⟨1,x.name,[],[]⟩,none,0⟩ v.Ae v.ce W2.drew uC.e (Nat.le_trans HB.o Eg.size) (by rw[uC.len];exact Hk.o.ev) (fun y hy=>by have:=HW.o.tx Hk.o y hy;show _+0≤_;omega));have HK:=ap (show ae W2.drew P 107 _ from uC.blk);clear Ic uC Eg K2 rA pQ c0' c1' f0' f1' e3 jq aN jN wC iQ hcs hlt;go_wp2
 go_region_with (go_at_call 81;refine HP.o.mono ?_;rintro e w1 ⟨A,c,xs,rfl,ho,hx,hi,hm⟩;have q2:w1.cell? ⟨P,2,none⟩=some _:=(hm.blk HK.o (by decide)).cell 2;have g2:=(hm.blk HK.o (by decide)).frozen 2)
 all_goals
  go_end0;unfold OZ;rw[Hr.o];exact⟨rfl,((M2.o.drew).trans (hm.fZ (by decide))).setCell (p:=⟨P,2,none⟩) (.inl rfl) _,_,(H2.o.go (Below.refl _ _).drew).events hm ho hx hi (MD _ rfl _)⟩
theorem ahi{st:St}{x:El}{m:Nat}(hx:st.open_.getLast?=some x)(hm:st.open_.length=m+1):st.open_[m]?=some x:=by rw[List.getLast?_eq_getElem?,hm] at hx;simpa using hx

theorem ali(B P:Nat)(w:World)(st:St)(v:Pv)(b o:Nat)(t:Tok)(h:PI B P w st none v)(hB:B≤w.heap.size)(hk:Ok st 1000000000 100000000000000000)(ht:rb B w b o t) :
  Calls Tryz.prog 50 #[.pointer (some ⟨P,0,none⟩),.pointer (some ⟨b,o,none⟩)] w (q9 B P w (Sx.end_ st t)):=by
 have t1:=ht.c1;have t5:=ht.c5;have H:=ap h;have HB:=ap hB;have Hk:=ap hk;have c0:=h.c
 cases hx:st.open_.getLast? with
 | none=>
  have he:=List.getLast?_eq_none_iff.1 hx;have Hr:=ap (show Sx.end_ st t=.error (t.at_,50) by unfold Sx.end_;rw[hx]);rw[he] at c0;have HW:=ap (fun k=>pq B P (w.drewN k) st none v t.at_ 50 (h.go (below_drewN (Below.refl _ _) k)) hB);have wA:decide ((-1:Int)<0)=true:=by decide
  clear h hB hk ht hx he
  go_enter Tryz.func50,Tryz.ntmps50
  go_wp2
  go_quiet (fail)
  go_wp2_with fail
  refine (HW.o _).mono ?_;rintro e w1 ⟨vb,rfl,h1,h2⟩;have H1:=ap h1;have M1:=ap ((aF.b8 (below_drewN (Below.refl _ _) _)).trans h2);clear h1 h2;go_wp2;go_end0;rw[Hr.o];exact⟨rfl,M1.o,_,_,H1.o⟩
 | some x=>
  have hne:st.open_≠[]:=fun e=>by rw[e] at hx;cases hx
  obtain⟨m,hm⟩:∃m,st.open_.length=m+1:=⟨st.open_.length-1,by have:=List.length_pos_iff.2 hne;omega⟩;have dV:=ahi hx hm;have ho:=h.o;rw[hm] at ho;obtain⟨g,cap,hv,dG,hlt⟩:=ho.form (by omega);have nu:v.Ao=some ⟨g,0,none⟩:=by injection hv
  rw[nu] at ho;have hce:=SJ ho hm dV;have d0:w.cell? ⟨g,m*4,none⟩=some (.string (aa x.written)):=hce 0 (by omega);rw[hm,nu] at c0;obtain⟨n,hn⟩:∃n,m+1=n:=⟨_,rfl⟩;rw[hn] at c0;have jN:IntKind.i64.wrap ((n:Int)-1)=(m:Int):=by rw[IntWalk.i64_in _ (by have:=hk.op;omega)];omega
  have wC:m<n:=by omega
  have wA:decide ((m:Int)<0)=false:=by rw[decide_eq_false_iff_not];omega
  have hq:((aa x.written).toList != (aa t.name).toList) = !decide (x.written=t.name):=by rw[bne,Eo]
  have nK:=Eo x.written t.name
  by_cases he:x.written=t.name
  ·have Hr:=ap (show Sx.end_ st t=.ok (rp st) by unfold Sx.end_;rw[hx];exact if_pos he);rw[decide_eq_true he] at hq nK;have HC:=ap (fun k=>X5 B P (w.drewN k) st none v (h.go (below_drewN (Below.refl _ _) k)) hB hk hne);clear h hB hk ht hx he hne hm dV ho hv nu hce hn
   go_enter Tryz.func50,Tryz.ntmps50
   go_wp2
   go_quiet (fail)
   go_wp2_with fail
   refine (HC.o _).mono ?_;rintro e w1 ⟨rfl,h2,v2,h1⟩;have H1:=ap h1;have M1:=ap ((aF.b8 (below_drewN (Below.refl _ _) _)).trans h2);clear h1 h2;go_wp2;go_end0;rw[Hr.o];exact⟨rfl,M1.o,_,H1.o⟩
  have Hr:=ap (show Sx.end_ st t=.error (t.at_,50) by unfold Sx.end_;rw[hx];exact if_neg he);rw[decide_eq_false he] at hq nK;have HW:=ap (fun k=>pq B P (w.drewN k) st none v t.at_ 50 (h.go (below_drewN (Below.refl _ _) k)) hB);clear h hB hk ht hx he hne hm dV ho hv nu hce hn
  go_enter Tryz.func50,Tryz.ntmps50
  go_wp2
  go_quiet (fail)
  go_wp2_with fail
  refine (HW.o _).mono ?_;rintro e w1 ⟨vb,rfl,h1,h2⟩;have H1:=ap h1;have M1:=ap ((aF.b8 (below_drewN (Below.refl _ _) _)).trans h2);clear h1 h2;go_wp2;go_end0;rw[Hr.o];exact⟨rfl,M1.o,_,_,H1.o⟩
end
end Go.Proofs.YtpdkeckeekchlaaGreatDoor
