/- Strict: an event behind others: the program's put. And more. -/
import Derived.Test.YtnbmfljhbpfilaaGreatDoorOw02
import Derived.Test.YtnbmfljhbpfilaaGreatDoorOw06
import Derived.Test.YtnbmfljhbpfilaaGreatDoorOw13
import Derived.Deep.QuietTactic
import Derived.BigQuiet
import Derived.Deep.LoopGhost
import Derived.WalkSpells
import Derived.WalkLawsBesides
import Derived.Deep.RegionWith
set_option linter.unusedSimpArgs false
set_option maxHeartbeats 16000000
set_option linter.unusedVariables false
namespace Go.Proofs.YtnbmfljhbpfilaaGreatDoor
section
open Go.RowKit Tk Sx

structure b7(B t:Nat)(w w':World):Prop where
 os:w'.os=w.os
 tape:w'.tape=w.tape
 output:w'.output=w.output
 size:w.heap.size≤w'.heap.size
 block:∀k,k<w.heap.size→¬(B≤k∧bO w k t)→w'.heap[k]?=w.heap[k]?
section
variable {B P t:Nat} {w w1 w':World}
theorem b7.trans(h:b7 B t w w1)(k:b7 B t w1 w'):b7 B t w w':=by
 refine⟨k.os.trans h.os,k.tape.trans h.tape,k.output.trans h.output,Nat.le_trans h.size k.size,fun i hi hn=>?_⟩;have e:=h.block i hi hn;rw[k.block i (Nat.lt_of_lt_of_le hi h.size) ?_,e];rintro ⟨h1,h2⟩;exact hn ⟨h1,Bu h2 e.symm⟩
theorem b7.bX(h:Below w.heap.size w w'):b7 B t w w':=⟨h.os,h.tape,h.output,h.size,fun k hk _=>h.block k hk⟩
theorem b7.grown{row:Option Nat}(hg:w.grownBy w' row)(hr:∀k,row=some k→B≤k∧bO w k t):b7 B t w w' :=
 ⟨hg.os,hg.tape,hg.output,hg.size,fun k h1 hn=>hg.block k h1 (fun e=>hn (hr k e.symm))⟩
theorem b7.set{p:Addr}(hp:B≤p.block∧bO w p.block t)(u:Value):b7 B t w (w.setCell p u):=by
 refine⟨rfl,rfl,rfl,by simp[World.setCell],fun k hk hn=>Below.heap_setCell _ _ _ _ (by rintro rfl;exact hn hp)⟩
theorem b7.blk{g t':Nat}{cs:Array Value}(h:b7 B t w w')(hg:ae w g t' cs)(ht:t'≠t):ae w' g t' cs :=
 (h.block g hg.lt (fun hh=>gJ hg.eR hh.2 ht)).trans hg
theorem b7.own{b e size n:Nat}{v:Value}{xs:List Value}(h:b7 B t w w')(ho:w.ownsRow b e size v n xs)(ht:e≠t):w'.ownsRow b e size v n xs:=by
 refine⟨ho.1,?_⟩
 rcases ho.2 with hn|⟨g,cap,cur,rfl,jd,dR,rest⟩
 ·exact .inl hn
 exact .inr ⟨g,cap,cur,rfl,jd,(h.block g (Array.getElem?_eq_some_iff.1 dR).1 (fun hh=>gJ ⟨cur,_,dR⟩ hh.2 ht)).trans dR,rest⟩
theorem b7.fM(h:b7 B t w w')(ht:t=107∨t=151∨t=50):aD B P w w':=by
 refine⟨h.os,h.tape,h.output,h.size,fun k hk _ hn=>h.block k hk fun hh=>hn ⟨hh.1,?_⟩⟩
 rcases ht with rfl|rfl|rfl
 ·exact .inl hh.2
 ·exact .inr (.inl hh.2)
 exact .inr (.inr hh.2)
end
theorem Ew.In.tE{x:Ew}{B t:Nat}{W W':World}(h:x.In B W)(hm:b7 B t W W')(ht:t≠122):x.In B W':=by
 have sa:∀a,x.A=some a→W'.heap[a.block]?=W.heap[a.block]?:=fun a ha=>hm.block _ (h.ta a ha).lt fun hh=>gJ (h.ta a ha) hh.2 ht.symm;exact⟨h.a.same sa hm.size,h.va,h.ta.same sa⟩
theorem Ew.In.ak{x y:Ew}{B:Nat}{W:World}(h:x.In B W)(hA:y.A=x.A)(ha:y.e.attrs=x.e.attrs):y.In B W:=⟨by rw[hA,ha];exact h.a,by rw[hA];exact h.va,by rw[hA];exact h.ta⟩
theorem gv.tE{B t:Nat}{w w':World}{b:bR}{v:Value}(h:gv B w b v)(hm:b7 B t w w')(ht:85≠t):gv B w' b v:=by
 unfold gv at h ⊢
 cases b with
 | none=>exact h
 | some x=>
  obtain⟨F,h1,h2,h3⟩:=h;exact⟨F,h1,h2,hm.blk h3 ht⟩
theorem jA(a b:L):aa a++aa b=aa (a++b):=by
 apply ByteArray.ext
 apply Array.ext'
 rw[←Array.toList_append]<;>simp[aa]
theorem b7.drew{B t:Nat}{w w1:World}(h:b7 B t w w1):b7 B t w w1.drew:=⟨h.os,h.tape,h.output,h.size,h.block⟩
theorem DW(x:Ew):(dQ x).length=5:=rfl
theorem JL(x:Ew):∀u∈dQ x,u.oneCell'=true:=by
 intro u hu;simp only[dQ,List.mem_cons,List.not_mem_nil,or_false] at hu
 rcases hu with rfl|rfl|rfl|rfl|rfl<;>rfl
def qs(B:Nat)(w:World)(xs:List Ew)(x:Ew)(e:Ending)(w':World):Prop :=
 ∃A c xs',e=.returned (.slice A xs'.length c)∧w'.ownsRow B 50 5 (.slice A xs'.length c) xs'.length (gS xs')∧xs'.map (·.e)=dg (xs.map (·.e)) x.e∧(∀y∈xs',∃z∈xs++[x],y.A=z.A∧y.e.attrs=z.e.attrs)∧b7 B 50 w w'
theorem qs.snoc{B:Nat}{w w8:World}{xs:List Ew}{x:Ew}{g cap c:Nat}{A:Option Addr}{o o':Obj}(hB:B≤w.heap.size)(h:w.ownsRow B 50 5 (.slice A xs.length c) xs.length (gS xs))(hown:w8.ownsRow B 50 5 (.slice (some ⟨g,0,none⟩) (xs.length+1) cap) (xs.length+1) (gS xs++dQ x))
  (hgrow:((w.alloc o).alloc o').grownBy w8 (Value.slice A xs.length c).ownBlock) (hp:dg (xs.map (·.e)) x.e=xs.map (·.e)++[x.e]):qs B w xs x (.returned (.slice (some ⟨g,0,none⟩) (xs.length+1) cap)) w8:=by
 refine⟨some ⟨g,0,none⟩,cap,xs++[x],by rw[List.length_append];rfl,by rw[List.length_append];unfold gS at hown ⊢;rw[JU];exact hown,by rw[hp,List.map_append];rfl,fun y hy=>⟨y,hy,rfl,rfl⟩,?_⟩;have b2:Below w.heap.size w ((w.alloc o).alloc o'):=((Below.refl _ _).alloc (Nat.le_refl _) o).alloc (by simp) o';exact (b7.bX b2).trans (.grown hgrow fun k hk=>aG (eW h b2) k hk)
theorem qs.akQ{B n:Nat}{w w8:World}{xs:List Ew}{x:Ew}{g cap c:Nat}{A:Option Addr}{o o':Obj}(hB:B≤w.heap.size)(h:w.ownsRow B 50 5 (.slice A n c) n (gS xs))(hn:xs.length=n)(hown:w8.ownsRow B 50 5 (.slice (some ⟨g,0,none⟩) (n+1) cap) (n+1) (gS xs++dQ x))
  (hgrow:((w.alloc o).alloc o').grownBy w8 (Value.slice A n c).ownBlock) (hp:dg (xs.map (·.e)) x.e=xs.map (·.e)++[x.e]):qs B w xs x (.returned (.slice (some ⟨g,0,none⟩) (n+1) cap)) w8:=by
 subst hn;exact qs.snoc hB h hown hgrow hp
theorem Xe{l:List Ev}{x:Ev}(h:x.kind≠2):dg l x=l++[x]:=by unfold dg;rw[if_pos h]
theorem ai6{x:Ev}(h:x.kind=2):dg [] x=if x.text=[] then [] else [x]:=by unfold dg;rw[if_neg (by simpa using h)];rfl
theorem ai8{l:List Ev}{y x:Ev}(h:x.kind=2)(hy:y.kind=2):dg (l++[y]) x=l++[⟨2,y.name,y.attrs,y.text++x.text⟩]:=by unfold dg;rw[if_neg (by simpa using h)];simp[hy]
theorem ai4{l:List Ev}{y x:Ev}(h:x.kind=2)(hy:y.kind≠2):dg (l++[y]) x=if x.text=[] then l++[y] else l++[y]++[x]:=by unfold dg;rw[if_neg (by simpa using h)];simp[hy]

theorem FW(B:Nat)(xs:List Ew)(x:Ew)(A:Option Addr)(c:Nat)(w:World)(h:w.ownsRow B 50 5 (.slice A xs.length c) xs.length (gS xs))(hB:B≤w.heap.size)(hn:xs.length≤1000000000)
  (ht:∀y∈xs,y.e.text.length+x.e.text.length≤1000000000000000000) :
  Calls Tryz.prog 60 #[.slice A xs.length c,.agg #[.int .i8 (x.e.kind:Int),.string (aa x.e.name.ns),.string (aa x.e.name.loc),.slice x.A x.e.attrs.length x.c,.string (aa x.e.text)]] w (qs B w xs x):=by
 have H:=hide h
 have HX:=hide (show ae ((w.alloc (.cells (dQ x).toArray 50)).alloc (.cells (dQ x).toArray 50)) (w.heap.size+1) 50 (dQ x).toArray by
  have:=ae.new (w.alloc (.cells (dQ x).toArray 50)) 50 (dQ x).toArray;rwa[World.size_alloc] at this)
 have xL:((aa x.e.text).toList==([]:L))=decide (x.e.text=[]):=kz (aa x.e.text) [];have sQ:(aa x.e.text).toList.isEmpty=decide (x.e.text=[]):=by rw[ByteArray.toList_eq,aP];cases x.e.text<;>simp
 by_cases hk:x.e.kind=2
 ·have cu:((x.e.kind:Int) != 2)=false:=by rw[hk];rfl
  rcases List.eq_nil_or_concat xs with hx|⟨ys,y,hx⟩
  ·have Hp:=hide (show dg (xs.map (·.e)) x.e=if x.e.text=[] then [] else [x.e] by rw[hx];exact ai6 hk);subst hx
   cases he:decide (x.e.text=[]) with
   | true=>
    rw[he] at xL sQ;have Hq:=hide (show dg (([]:List Ew).map (·.e)) x.e=[] by rw[Hp.out,if_pos (of_decide_eq_true he)]);clear hk h ht he;have pM:=hide hB;clear hn hB
    go_enter Tryz.func60,Tryz.ntmps60
    go_wp2;go_ret;exact⟨A,c,[],rfl,eW H.out (az _ _),Hq.out.symm,(fun y hy=>by cases hy),b7.bX (az _ _)⟩
   | false=>
    rw[he] at xL sQ;have Hq:=hide (show dg (([]:List Ew).map (·.e)) x.e=([]:List Ew).map (·.e)++[x.e] by rw[Hp.out,if_neg (of_decide_eq_false he)];rfl);clear hk h ht he;have pM:=hide hB;clear hn hB
    go_enter Tryz.func60,Tryz.ntmps60
    go_wp2_with (at_builtin;go_loud (refine wA ((w.alloc (.cells (dQ x).toArray 50)).alloc (.cells (dQ x).toArray 50)) rfl (.tmp 39) (.tmp 41) 38 rfl B 50 _ 5 80 Tryz.underlying38 L8 rfl (by omega) (.slice A 0 c) 0 [] rfl ((H.out.alloc _).alloc _) (dQ x) rfl (JL x) (w.heap.size+1) HX.out rfl (by unfold maxLen;omega) (by omega) (by have:=pM.out;simp;omega) ?_);intro g cap w8 aM aF dc)
    go_ret;exact qs.snoc pM.out H.out (by assumption) (by assumption) Hq.out
  rw[List.concat_eq_append] at hx;obtain⟨m,hm⟩:∃m,ys.length=m:=⟨_,rfl⟩;have hl:xs.length=m+1:=by rw[hx,←hm];simp
  obtain⟨g,cap,hv,dH,hlt⟩:=h.form (by omega);cases hv
  have jD:∀j,j<5→w.cell? ⟨g,m*5+j,none⟩=(dQ y)[j]?:=fun j hj=>by
   rw[h.cellAt (m*5+j) (by omega)];unfold gS;rw[xy DW xs m (by omega) j hj];congr 2;simp only[hx];rw[List.getElem_append_right (by omega)];simp[hm]
  have c0:w.cell? ⟨g,m*5,none⟩=some (.int .i8 (y.e.kind:Int)):=jD 0 (by omega);have c4:w.cell? ⟨g,m*5+4,none⟩=some (.string (aa y.e.text)):=jD 4 (by omega);have f4:=h.frozenAt (m*5+4);have ht:=ht y (by rw[hx];simp);obtain⟨n,bz⟩:∃n,xs.length=n:=⟨_,rfl⟩;have lK:IntKind.i64.wrap ((n:Int)-1)=(m:Int):=by rw[IntWalk.i64_in _ (by omega)];omega
  have vC:m<n:=by omega
  rw[bz] at H ⊢;have HL:=hide bz;have HN:=hide bz;have fI:=hide hx;have Hm:=hide hm;have Hn:=hide (show n≤1000000000 by omega);have pM:=hide hB;clear h hn hB hl bz hx hm jD
  by_cases hy:y.e.kind=2
  ·have hy2:((y.e.kind:Int)==2)=true:=by rw[hy];rfl
   have Ht:=hide ht;have Hq:=hide (show dg (xs.map (·.e)) x.e=ys.map (·.e)++[⟨2,y.e.name,y.e.attrs,y.e.text++x.e.text⟩] by rw[fI.out,List.map_append,List.map_cons,List.map_nil,ai8 hk hy]);have Hk:=hide hk;have Hy:=hide hy;clear hk hy ht xL sQ
   go_enter Tryz.func60,Tryz.ntmps60
   go_wp2;obtain⟨W,hW⟩:∃W,w.alloc (.cells #[.int .i8 (x.e.kind:Int),.string (aa x.e.name.ns),.string (aa x.e.name.loc),.slice x.A x.e.attrs.length x.c,.string (aa x.e.text)] 50)=W:=⟨_,rfl⟩;rw[hW];have uY:Below w.heap.size w W:=by rw[←hW];exact az _ _
   have d4:W.cell? ⟨w.heap.size,4,none⟩=some (.string (aa x.e.text)):=by rw[←hW];exact (ae.new w 50 #[.int .i8 (x.e.kind:Int),.string (aa x.e.name.ns),.string (aa x.e.name.loc),.slice x.A x.e.attrs.length x.c,.string (aa x.e.text)]).cell 4
   replace c4:W.cell? ⟨g,m*5+4,none⟩=some (.string (aa y.e.text)):=(uY.cell (p:=⟨g,m*5+4,none⟩) hlt).trans c4;replace f4:W.frozen? ⟨g,m*5+4,none⟩=false:=(uY.frozen (p:=⟨g,m*5+4,none⟩) hlt).trans f4;have m1:¬9223372036854775807<(aa y.e.text).size+(aa x.e.text).size:=by rw[aC,aC];have:=Ht.out;omega
   have OW:=hide (eW H.out uY);have BW:=hide uY;clear uY hW
   go_region
   all_goals
    go_wp2;go_ret;refine⟨some ⟨g,0,none⟩,c,ys++[⟨⟨2,y.e.name,y.e.attrs,y.e.text++x.e.text⟩,y.A,y.c⟩],?_,?_,?_,?_,?_⟩
    ·rw[←HN.out,fI.out,List.length_append,List.length_append];rfl
    ·have h:=(OW.out.stored (m*5+4) (.string (aa y.e.text++aa x.e.text))).1
     have e1:(gS xs).set (m*5+4) (.string (aa y.e.text++aa x.e.text))=gS (ys++[⟨⟨2,y.e.name,y.e.attrs,y.e.text++x.e.text⟩,y.A,y.c⟩]):=by
      rw[fI.out];unfold gS;rw[JU,JU,List.set_append_right _ _ (by rw[uM DW,Hm.out];omega),uM DW,Hm.out,Nat.add_sub_cancel_left,jA];show _++_=_++_;unfold dQ;rw[Hy.out];rfl
     rw[e1] at h;have e2:(ys++[(⟨⟨2,y.e.name,y.e.attrs,y.e.text++x.e.text⟩,y.A,y.c⟩:Ew)]).length=n:=by rw[←HN.out,fI.out,List.length_append,List.length_append];rfl
     rw[e2];exact h
    ·rw[Hq.out,List.map_append];rfl
    ·intro z hz
     rcases List.mem_append.1 hz with hz|hz
     ·exact⟨z,by rw[fI.out];simp[hz],rfl,rfl⟩
     simp only[List.mem_singleton] at hz;subst hz;exact⟨y,by rw[fI.out];simp,rfl,rfl⟩
    exact ((b7.bX BW.out).trans (b7.set (p:=⟨g,m*5+4,none⟩) ⟨dH,(aG OW.out g rfl).2⟩ _)).drew
  have hy2:((y.e.kind:Int)==2)=false:=by rw[beq_eq_false_iff_ne];omega
  have Hp:=hide (ai4 (l:=ys.map (·.e)) hk hy)
  cases he:decide (x.e.text=[]) with
  | true=>
   rw[he] at xL sQ;have Hq:=hide (show dg (xs.map (·.e)) x.e=xs.map (·.e) by rw[fI.out,List.map_append,List.map_cons,List.map_nil,Hp.out,if_pos (of_decide_eq_true he)]);clear hk ht he hy
   go_enter Tryz.func60,Tryz.ntmps60
   go_wp2;go_ret;exact⟨_,_,xs,by rw[HN.out];rfl,by rw[HN.out];exact eW H.out (az _ _),Hq.out.symm,(fun z hz=>⟨z,List.mem_append_left _ hz,rfl,rfl⟩),b7.bX (az _ _)⟩
  | false=>
   rw[he] at xL sQ;have Hq:=hide (show dg (xs.map (·.e)) x.e=xs.map (·.e)++[x.e] by rw[fI.out,List.map_append,List.map_cons,List.map_nil,Hp.out,if_neg (of_decide_eq_false he)]);clear hk ht he hy
   go_enter Tryz.func60,Tryz.ntmps60
   go_wp2_with (at_builtin;go_loud (refine wA ((w.alloc (.cells (dQ x).toArray 50)).alloc (.cells (dQ x).toArray 50)) rfl (.tmp 39) (.tmp 41) 38 rfl B 50 _ 5 80 Tryz.underlying38 L8 rfl (by omega) (.slice (some ⟨g,0,none⟩) n c) n (gS xs) rfl ((H.out.alloc _).alloc _) (dQ x) rfl (JL x) (w.heap.size+1) HX.out rfl (by unfold maxLen;have:=Hn.out;omega) (by have:=Hn.out;omega) (by have:=pM.out;simp;omega) ?_);intro g2 cap w8 aM aF dc)
   go_ret;exact qs.akQ pM.out H.out HL.out (by assumption) (by assumption) Hq.out
 have cu:((x.e.kind:Int) != 2)=true:=by rw[bne_iff_ne];omega
 have Hp:=hide (Xe (l:=xs.map (·.e)) hk);have Hn:=hide hn;have pM:=hide hB;clear hk h xL sQ ht hn hB
 go_enter Tryz.func60,Tryz.ntmps60
 go_wp2_with (at_builtin;go_loud (refine wA ((w.alloc (.cells (dQ x).toArray 50)).alloc (.cells (dQ x).toArray 50)) rfl (.tmp 9) (.tmp 11) 38 rfl B 50 _ 5 80 Tryz.underlying38 L8 rfl (by omega) (.slice A xs.length c) xs.length (gS xs) rfl ((H.out.alloc _).alloc _) (dQ x) rfl (JL x) (w.heap.size+1) HX.out rfl (by unfold maxLen;have:=Hn.out;omega) (by have:=Hn.out;omega) (by have:=pM.out;simp;omega) ?_);intro g cap w8 aM aF dc)
 go_ret;exact qs.snoc pM.out H.out (by assumption) (by assumption) Hp.out
end
section
open Go.RowKit Tk

end
section
open Go.RowKit Tk Sx

theorem acG(c:UInt8)(w:World):Calls Tryz.prog 96 #[.int .i64 (c.toNat:Nat)] w fun e w'=>e=.returned (.bool (sp c))∧w'=w:=by
 have key:∀d:UInt8,((c.toNat:Int)==(d.toNat:Int))=(c==d):=fun d=>by
  rw[Bool.eq_iff_iff,beq_iff_eq,beq_iff_eq];exact⟨fun h=>UInt8.toNat_inj.1 (by omega),fun h=>by rw[h]⟩
 have e1:((c.toNat:Int)==32)=(c==32):=key 32;have e2:((c.toNat:Int)==9)=(c==9):=key 9;have e3:((c.toNat:Int)==10)=(c==10):=key 10;have e4:((c.toNat:Int)==13)=(c==13):=key 13;unfold sp;clear key;generalize (c==32)=a32 at *
 generalize (c==9)=a9 at *
 generalize (c==10)=a10 at *
 generalize (c==13)=a13 at *

 cases a32 with
 | true=>
  go_enter Tryz.func96,Tryz.ntmps96
  go_wp2
  go_ret
  exact⟨aO (ck (by simp)),rfl⟩
 | false=>
  cases a9 with
  | true=>
   go_enter Tryz.func96,Tryz.ntmps96
   go_wp2
   go_ret
   exact⟨aO (ck (by simp)),rfl⟩
  | false=>
   cases a10 with
   | true=>
    go_enter Tryz.func96,Tryz.ntmps96
    go_wp2
    go_ret
    exact⟨aO (ck (by simp)),rfl⟩
   | false=>
    cases a13 with
    | true=>
     go_enter Tryz.func96,Tryz.ntmps96
     go_wp2
     go_ret
     exact⟨aO (ck (by simp)),rfl⟩
    | false=>
     go_enter Tryz.func96,Tryz.ntmps96
     go_wp2
     go_ret
     exact⟨aO (ck (by simp)),rfl⟩
theorem aca(D:L)(w:World)(hD:D.length≤1000000000):Calls Tryz.prog 63 #[.string (aa D)] w fun e w'=>e=.returned (.bool (D.all sp))∧Below w.heap.size w w':=by
 have Hs:=hide (aC D);obtain⟨W,g,cap,mU,hb,hg,hat⟩:=Dz (aa D) w;rw[aP] at hat;have qa:=hide hat;have HB:=hide hb;clear hat hb;obtain⟨z,hz⟩:∃z,D.all sp=z:=⟨_,rfl⟩;have Hz:=hide (show (D.drop 0).all sp=z by rw[List.drop_zero,hz]);rw[hz];clear hz
 go_enter Tryz.func63,Tryz.ntmps63
 go_wp2;clear mU
 go_loopg [8] (aa D).size (fun gk v wr=>∃k:Nat,gk=(aa D).size-k∧k≤(aa D).size∧v=.int .i64 (k:Int)∧(D.drop k).all sp=z∧wr=W)
 case atStart=>exact⟨0,rfl,by omega,rfl,Hz.out,rfl⟩
 case round=>
  obtain⟨k,au,hk,rfl,Bq,rfl⟩:=hrel;have Hg:=hide au;have jU:=hide Bq;clear au Bq Hz
  by_cases hlt:k<(aa D).size
  ·obtain⟨c,hc⟩:∃c,D[k]?=some c:=⟨_,List.getElem?_eq_getElem (by rw[←Hs.out];exact hlt)⟩;have hcell:=qa.out k c hc;have iF:(0:Int)≤(k:Int):=by omega
   have hcw:IntKind.i64.wrap (c.toNat:Int)=(c.toNat:Int):=IntWalk.i64_in _ (by have:=c.toNat_lt;omega);have vK:IntKind.i64.wrap ((k:Int)+1)=(k:Int)+1:=IntWalk.i64_in _ (by have:=Hs.out;omega);have HS:=hide (acG c);have hst:z=(sp c&&(D.drop (k+1)).all sp):=by rw[←jU.out,xr hc,List.all_cons]
   clear hc jU
   cases hsp:sp c with
   | true=>
    rw[hsp] at HS hst;have Hn:=hide (show (D.drop (k+1)).all sp=z by rw[hst,Bool.true_and]);clear hst hsp
    go_wp2_with fail
    refine cq (HS.out _) ?_
    go_wp2
    go_roundg ((aa D).size-(k+1))
    case measure=>have:=Hg.out;omega
    case rel=>exact⟨k+1,rfl,by omega,by first|rfl|go_num,Hn.out,rfl⟩
   | false=>
    rw[hsp] at HS hst;have Hr:=hide (show false=z by rw[hst,Bool.false_and]);clear hst hsp
    go_wp2_with fail
    refine cq (HS.out _) ?_
    go_wp2;go_ret;exact⟨aO (ck Hr.out),HB.out⟩
  have Hr:=hide (show true=z by rw[←jU.out,List.drop_of_length_le (by rw[←Hs.out];omega)];rfl);clear jU;go_wp2;go_ret;exact⟨aO (ck Hr.out),HB.out⟩

end
section
open Go.RowKit Tk Sx

structure Ok(st:St)(n M:Nat):Prop where
 op:st.open_.length≤16
 sc:st.scope.length≤n
 ev:st.evs.length≤n
 tx:∀y∈st.evs,y.text.length≤M
 rf:∀x∈st.open_,x.scope≤st.scope.length
 vZ:st.open_.Pairwise fun a b=>a.scope≤b.scope
theorem oM.none{B:Nat}:oM B none:=fun a ha=>by cases ha
theorem Typed.none{w:World}{t:Nat}:Typed w none t:=fun a ha=>by cases ha
theorem L1{B:Nat}{W:World}(e:Ev)(h:e.attrs=[])(c:Nat):(Ew.mk e none c).In B W:=⟨by rw[show (Ew.mk e none c).e.attrs=[] from h];exact Reads.none_,.none,.none⟩
theorem PI.events{B P:Nat}{w w1:World}{st:St}{b:bR}{v:Pv}{x:Ew}{xs:List Ew}{A:Option Addr}{c:Nat}(h:PI B P w st b v)(hm:b7 B 50 w w1)(ho:w1.ownsRow B 50 5 (.slice A xs.length c) xs.length (gS xs))
  (hx:xs.map (·.e)=dg (v.xs.map (·.e)) x.e) (hi:∀y∈xs,∃z∈v.xs++[x],y.A=z.A∧y.e.attrs=z.e.attrs) (cd:x.In B w) :
  PI B P (w1.setCell ⟨P,2,none⟩ (.slice A xs.length c)) ⟨st.open_,st.scope,dg st.evs x.e,st.gu⟩ b ⟨v.Ao,v.co,v.As,v.cs,A,c,v.vb,xs⟩:=by
 have hb:=hm.blk h.blk (by decide);refine⟨hb.aI 2 _,h.bp,?_,?_,?_,?_,?_,?_⟩
 ·exact dO (p:=⟨P,2,none⟩) (hm.own h.o (by decide)) hb (by decide) _
 ·exact dO (p:=⟨P,2,none⟩) (hm.own h.s (by decide)) hb (by decide) _
 ·exact dO (p:=⟨P,2,none⟩) ho hb (by decide) _
 ·rw[hx,h.ev]
 ·intro y hy;obtain⟨z,hz,h1,h2⟩:=hi y hy
  have hz1:z.In B w1:=by
   rcases List.mem_append.1 hz with hz|hz
   ·exact (h.gH z hz).tE hm (by decide)
   simp only[List.mem_singleton] at hz;subst hz;exact cd.tE hm (by decide)
  have oq:y.In B w1:=hz1.ak h1 h2;exact oq.fM ((aD.refl B P w1).setCell (p:=⟨P,2,none⟩) (.inl rfl) _) (sG oq hb)
 have h1:=h.bad.tE hm (by decide);exact h1.fM ((aD.refl B P w1).setCell (p:=⟨P,2,none⟩) (.inl rfl) _) hb (by decide)
def qw(B P:Nat)(w:World)(r:Except (Nat×Nat) St)(e:Ending)(w':World):Prop :=
 e=.returned (.tuple #[])∧aD B P w w'∧match r with
  | .ok st=>∃v,PI B P w' st none v
  | .error x=>∃st v,PI B P w' st (some x) v
structure qx(B:Nat)(w:World)(b o:Nat)(t:Tok):Prop where
 lt:b<B
 c1:w.cell? ⟨b,o+1,none⟩=some (.string (aa t.name))
 c3:w.cell? ⟨b,o+3,none⟩=some (.bool t.empty)
 c4:w.cell? ⟨b,o+4,none⟩=some (.string (aa t.text))
 c5:w.cell? ⟨b,o+5,none⟩=some (.int .i64 (t.at_:Int))
theorem PI.c{B P:Nat}{w:World}{st:St}{b:bR}{v:Pv}(hP:PI B P w st b v):w.cell? ⟨P,0,none⟩=some (.slice v.Ao st.open_.length v.co):=hP.blk.cell 0
theorem PI.c2{B P:Nat}{w:World}{st:St}{b:bR}{v:Pv}(hP:PI B P w st b v):w.cell? ⟨P,2,none⟩=some (.slice v.Ae v.xs.length v.ce):=hP.blk.cell 2
theorem PI.f2{B P:Nat}{w:World}{st:St}{b:bR}{v:Pv}(hP:PI B P w st b v):w.frozen? ⟨P,2,none⟩=false:=hP.blk.frozen 2
theorem PI.tx{B P n M:Nat}{w:World}{st:St}{b:bR}{v:Pv}(hP:PI B P w st b v)(hk:Ok st n M):∀y∈v.xs,y.e.text.length≤M:=fun y hy=>hk.tx _ (by rw[←hP.ev];exact List.mem_map_of_mem hy)

theorem acN(B P:Nat)(w:World)(st:St)(v:Pv)(b o:Nat)(t:Tok)(h:PI B P w st none v)(hB:B≤w.heap.size)(hk:Ok st 1000000000 100000000000000000)(ht:qx B w b o t)(jo:t.text.length≤100000000) :
  Calls Tryz.prog 33 #[.pointer (some ⟨P,0,none⟩),.pointer (some ⟨b,o,none⟩)] w (qw B P w (Sx.data st t)):=by
 have c0:=h.c;have c2:=h.c2;have f2:=h.f2;have t4:=ht.c4;have t5:=ht.c5;have H:=hide h;have HB:=hide hB;obtain⟨n,hn⟩:∃n,st.open_.length=n:=⟨_,rfl⟩;rw[hn] at c0
 by_cases h0:st.open_=[]
 ·have kp:n=0:=by rw[←hn,h0];rfl
  have Hr:=hide (show Sx.data st t=.error (t.at_,50) by unfold Sx.data;rw[if_pos h0]);have HW:=hide (oL B P w st none v t.at_ 50 h hB);subst kp;clear h hB hk ht jo hn h0
  go_enter Tryz.func33,Tryz.ntmps33
  go_wp2_with fail
  refine HW.out.mono ?_;rintro e w1 ⟨vb,rfl,h1,h2⟩;have H1:=hide h1;have H2:=hide h2;clear h1 h2;go_wp2;go_end0;rw[Hr.out];exact⟨rfl,H2.out,st,_,H1.out⟩
 have kp:decide ((n:Int)=0)=false:=by rw[decide_eq_false_iff_not];intro e;exact h0 (List.eq_nil_of_length_eq_zero (by omega))
 have qQ:((n:Int)==0)=false:=by rw[beq_eq_false_iff_ne];intro e;exact h0 (List.eq_nil_of_length_eq_zero (by omega))
 have Hr:=hide (show Sx.data st t=.ok (yH st t.text) by unfold Sx.data;rw[if_neg h0]);have HP:=hide (FW B v.xs ⟨lR t.text,none,0⟩ v.Ae v.ce w.drew h.e hB (by rw[h.len];exact hk.ev) (fun y hy=>by have:=h.tx hk y hy;show _+t.text.length≤_;omega));have HK:=hide (show ae w.drew P 77 _ from h.blk);clear h hB hk ht jo hn h0
 go_enter Tryz.func33,Tryz.ntmps33
 go_wp2
 go_region_with (go_at_call 60;refine HP.out.mono ?_;rintro e w1 ⟨A,c,xs,rfl,ho,hx,hi,hm⟩;have q2:w1.cell? ⟨P,2,none⟩=some _:=(hm.blk HK.out (by decide)).cell 2;have g2:=(hm.blk HK.out (by decide)).frozen 2)
 all_goals
  go_end0;rw[Hr.out];exact⟨rfl,(((aD.refl B P w).drew).trans (hm.fM (by decide))).setCell (p:=⟨P,2,none⟩) (.inl rfl) _,_,(H.out.go (Below.refl _ _).drew).events hm ho hx hi (L1 _ rfl _)⟩

theorem Nr:∀(f k:Nat) (l out:L),cP f k l=.ok out→out.length≤4*l.length:=by
 intro f
 induction f with
 | zero=>intro k l out h;rw[cP] at h;cases h;simp
 | succ f ih=>
 intro k l out h
 cases l with
 | nil=>rw[cP] at h;cases h;simp
 | cons c r=>
  by_cases hc:c=38
  ·subst hc
   cases he:ends r with
   | none=>rw[XX he] at h;cases h
   | some n=>
    have hn:=JI he
    cases hs:scalar (r.take n) with
    | none=>rw[XW he hs] at h;cases h
    | some v=>
     rw[Nt he hs] at h
     cases hy:cP f (k+n+2) (r.drop (n+1)) with
     | error a=>rw[hy] at h;cases h
     | ok o=>
      rw[hy] at h;simp only[iZ,Except.ok.injEq] at h;subst h;have:=ih _ _ _ hy;have hp:=MK (v:Int);rw[List.length_drop] at this;rw[List.length_append,List.length_cons];omega
  rw[Np hc] at h
  cases hy:cP f (k+1) r with
  | error a=>rw[hy] at h;cases h
  | ok o=>
   rw[hy] at h;simp only[iZ,Except.ok.injEq] at h;subst h;have:=ih _ _ _ hy;rw[List.length_append,List.length_cons,List.length_cons];simp;omega

theorem alw(B P:Nat)(w:World)(st:St)(v:Pv)(b o:Nat)(t:Tok)(h:PI B P w st none v)(hB:B≤w.heap.size)(hk:Ok st 1000000000 100000000000000000)(ht:qx B w b o t)(jo:t.text.length≤100000) :
  Calls Tryz.prog 32 #[.pointer (some ⟨P,0,none⟩),.pointer (some ⟨b,o,none⟩)] w (qw B P w (Sx.text st t)):=by
 have t4:=ht.c4;have HS:=hide (NC (aa t.text) w (by rw[aC];exact jo));rw[aP,aC] at HS;have bM:=hide (fun W=>aca t.text W (by omega));have H:=hide h;have HB:=hide hB;have Ht:=hide ht;have Hk:=hide hk;have Htx:=hide jo;clear hk ht jo;obtain⟨y,hy⟩:∃y,cP t.text.length 0 t.text=y:=⟨_,rfl⟩;rw[hy] at HS;obtain⟨bl,bt⟩:∃bl,t.text.all sp=bl:=⟨_,rfl⟩;rw[bt] at bM;obtain⟨n,hn⟩:∃n,st.open_.length=n:=⟨_,rfl⟩;have HN:=hide hn
 by_cases h0:st.open_=[]
 ·have kp:n=0:=by rw[←hn,h0];rfl
  subst kp
  cases bl with
  | true=>
   have Hr:=hide (show Sx.text st t=.ok st by unfold Sx.text;rw[if_pos h0,if_pos bt]);clear h0 hn bt hy h hB
   cases y with
   | _=>
    unfold iL at HS
    go_enter Tryz.func32,Tryz.ntmps32
    go_wp2_with fail
    refine HS.out.mono ?_;rintro e w1 ⟨rfl,b1⟩;have H1:=hide (H.out.go b1);have c0:=H1.out.c;rw[HN.out] at c0;have t4':=(b1.cell (p:=⟨b,o+4,none⟩) (by have:=Ht.out.lt;have:=HB.out;show b<_;omega)).trans t4;have M1:=hide (aD.bX (B:=B) (P:=P) b1);clear b1
    go_wp2_with fail
    refine (bM.out _).mono ?_;rintro e w2 ⟨rfl,b2⟩;have H2:=hide (H1.out.go b2);have M2:=hide (M1.out.go b2);clear b2;go_wp2;go_end0;rw[Hr.out];exact⟨rfl,M2.out,_,H2.out⟩
  | false=>
   have Hr:=hide (show Sx.text st t=.error (t.at_,50) by unfold Sx.text;rw[if_pos h0,if_neg (by rw[bt];simp)]);clear h0 hn bt hy h hB
   cases y with
   | _=>
    unfold iL at HS
    go_enter Tryz.func32,Tryz.ntmps32
    go_wp2_with fail
    refine HS.out.mono ?_;rintro e w1 ⟨rfl,b1⟩;have H1:=hide (H.out.go b1);have c0:=H1.out.c;rw[HN.out] at c0;have t4':=(b1.cell (p:=⟨b,o+4,none⟩) (by have:=Ht.out.lt;have:=HB.out;show b<_;omega)).trans t4;have M1:=hide (aD.bX (B:=B) (P:=P) b1);clear b1
    go_wp2_with fail
    refine (bM.out _).mono ?_;rintro e w2 ⟨rfl,b2⟩;have H2:=hide (H1.out.go b2);have M2:=hide (M1.out.go b2);have NF:=((M2.out.below (C:=B) (Nat.le_refl _) H.out.bp HB.out).cell (p:=⟨b,o+5,none⟩) Ht.out.lt).trans Ht.out.c5;have HW:=hide (oL B P w2 st none v t.at_ 50 H2.out (Nat.le_trans HB.out M2.out.size));clear b2
    go_wp2_with fail
    refine HW.out.mono ?_;rintro e w3 ⟨vb,rfl,h1,h2⟩;have H3:=hide h1;have M3:=hide (M2.out.trans h2);clear h1 h2;go_wp2;go_end0;rw[Hr.out];exact⟨rfl,M3.out,_,_,H3.out⟩
 have kp:0<n:=by rw[←hn];exact List.length_pos_iff.2 h0
 cases y with
 | ok s=>
  have Hr:=hide (show Sx.text st t=.ok (yH st s) by unfold Sx.text;rw[if_neg h0,hy]);have Hs:=hide (show s.length≤400000 by have:=Nr _ _ _ _ hy;have:=Htx.out;omega);clear h0 hn bt hy h hB;unfold iL at HS
  go_enter Tryz.func32,Tryz.ntmps32
  go_wp2_with fail
  refine HS.out.mono ?_;rintro e w1 ⟨rfl,b1⟩;have H1:=hide (H.out.go b1);have c0:=H1.out.c;have c2:=H1.out.c2;rw[HN.out] at c0;have M1:=hide (aD.bX (B:=B) (P:=P) b1);have HP:=hide (FW B v.xs ⟨lR s,none,0⟩ v.Ae v.ce w1 H1.out.e (Nat.le_trans HB.out b1.size) (by rw[H1.out.len];exact Hk.out.ev) (fun y hy=>by have:=H1.out.tx Hk.out y hy;have:=Hs.out;show _+s.length≤_;omega));clear b1
  go_wp2_with fail
  refine HP.out.mono ?_;rintro e w2 ⟨A,c,xs,rfl,ho,hx,hi,hm⟩;have q2:w2.cell? ⟨P,2,none⟩=some _:=(hm.blk H1.out.blk (by decide)).cell 2;have g2:=(hm.blk H1.out.blk (by decide)).frozen 2;have H2:=hide (H1.out.events hm ho hx hi (L1 _ rfl _));have M2:=hide ((M1.out.trans (hm.fM (by decide))).setCell (p:=⟨P,2,none⟩) (.inl rfl) (.slice A xs.length c));clear ho hx hi hm;go_wp2;go_end0;rw[Hr.out];exact⟨rfl,M2.out,_,H2.out⟩
 | error a=>
  have Hr:=hide (show Sx.text st t=.error (t.at_,50) by unfold Sx.text;rw[if_neg h0,hy]);clear h0 hn bt hy h hB;unfold iL at HS
  go_enter Tryz.func32,Tryz.ntmps32
  go_wp2_with fail
  refine HS.out.mono ?_;rintro e w1 ⟨rfl,b1⟩;have H1:=hide (H.out.go b1);have c0:=H1.out.c;rw[HN.out] at c0;have NF:=(b1.cell (p:=⟨b,o+5,none⟩) (by have:=Ht.out.lt;have:=HB.out;show b<_;omega)).trans Ht.out.c5;have M1:=hide (aD.bX (B:=B) (P:=P) b1);have HW:=hide (oL B P w1 st none v t.at_ 50 H1.out (Nat.le_trans HB.out b1.size));clear b1
  go_wp2_with fail
  refine HW.out.mono ?_;rintro e w3 ⟨vb,rfl,h1,h2⟩;have H3:=hide h1;have M3:=hide (M1.out.trans h2);clear h1 h2;go_wp2;go_end0;rw[Hr.out];exact⟨rfl,M3.out,_,_,H3.out⟩
end
section
open Go.RowKit Tk Sx

section
variable {B P:Nat} {w:World} {st:St} {b:bR} {v:Pv}
theorem PI.c1(hP:PI B P w st b v):w.cell? ⟨P,1,none⟩=some (.slice v.As st.scope.length v.cs):=hP.blk.cell 1
theorem PI.f0(hP:PI B P w st b v):w.frozen? ⟨P,0,none⟩=false:=hP.blk.frozen 0
theorem PI.f1(hP:PI B P w st b v):w.frozen? ⟨P,1,none⟩=false:=hP.blk.frozen 1
theorem PI.acI(h:PI B P w st b v){k:Nat}(hk:k≤st.open_.length):PI B P (w.setCell ⟨P,0,none⟩ (.slice v.Ao k v.co)) ⟨st.open_.take k,st.scope,st.evs,st.gu⟩ b v:=by
 have hl:(st.open_.take k).length=k:=by rw[List.length_take];omega
 refine⟨?_,h.bp,?_,dO (p:=⟨P,0,none⟩) h.s h.blk (by decide) _,dO (p:=⟨P,0,none⟩) h.e h.blk (by decide) _,h.ev,fun x hx=>(h.gH x hx).fM ((aD.refl B P w).setCell (p:=⟨P,0,none⟩) (.inl rfl) _) (sG (h.gH x hx) h.blk),
  h.bad.fM ((aD.refl B P w).setCell (p:=⟨P,0,none⟩) (.inl rfl) _) h.blk (by decide)⟩
 ·have:=h.blk.aI 0 (.slice v.Ao k v.co);unfold BV at this ⊢;dsimp only;rw[hl];exact this
 dsimp only;rw[hl];have:=dO (p:=⟨P,0,none⟩) (WE h.o hk) h.blk (by decide) (.slice v.Ao k v.co);unfold els;rw[JV (m:=4) (fun _=>rfl)];exact this
theorem PI.acJ(h:PI B P w st b v){k:Nat}(hk:k≤st.scope.length):PI B P (w.setCell ⟨P,1,none⟩ (.slice v.As k v.cs)) ⟨st.open_,st.scope.take k,st.evs,st.gu⟩ b v:=by
 have hl:(st.scope.take k).length=k:=by rw[List.length_take];omega
 refine⟨?_,h.bp,dO (p:=⟨P,1,none⟩) h.o h.blk (by decide) _,?_,dO (p:=⟨P,1,none⟩) h.e h.blk (by decide) _,h.ev,fun x hx=>(h.gH x hx).fM ((aD.refl B P w).setCell (p:=⟨P,1,none⟩) (.inl rfl) _) (sG (h.gH x hx) h.blk),
  h.bad.fM ((aD.refl B P w).setCell (p:=⟨P,1,none⟩) (.inl rfl) _) h.blk (by decide)⟩
 ·have:=h.blk.aI 1 (.slice v.As k v.cs);unfold BV at this ⊢;dsimp only;rw[hl];exact this
 dsimp only;rw[hl];have:=dO (p:=⟨P,1,none⟩) (WE h.s hk) h.blk (by decide) (.slice v.As k v.cs);unfold bP;rw[JV (m:=2) (fun _=>rfl)];exact this
end
def Ox(B P:Nat)(w:World)(st:St)(b:bR)(e:Ending)(w':World):Prop:=e=.returned (.tuple #[])∧aD B P w w'∧∃v,PI B P w' (jZ st) b v
theorem Sa{w:World}{B g c n m:Nat}{l:List El}{x:El}(h:w.ownsRow B 107 4 (.slice (some ⟨g,0,none⟩) n c) n (els l))(hn:l.length=n)(hx:l[m]?=some x):∀j,j<4→w.cell? ⟨g,m*4+j,none⟩=(nS x)[j]?:=fun j hj=>by
 obtain⟨h1,h2⟩:=List.getElem?_eq_some_iff.1 hx;rw[h.cellAt (m*4+j) (by omega)];unfold els;rw[xy (m:=4) (fun _=>rfl) l m h1 j hj,h2]

theorem XC(B P:Nat)(w:World)(st:St)(bd:bR)(v:Pv)(h:PI B P w st bd v)(hB:B≤w.heap.size)(hk:Ok st 1000000000 100000000000000000)(hne:st.open_≠[]) :
  Calls Tryz.prog 61 #[.pointer (some ⟨P,0,none⟩)] w (Ox B P w st bd):=by
 obtain⟨x,hx⟩:∃x,st.open_.getLast?=some x:=by
  cases hl:st.open_.getLast? with
  | none=>exact absurd (List.getLast?_eq_none_iff.1 hl) hne
  | some x=>exact⟨x,rfl⟩
 obtain⟨m,hm⟩:∃m,st.open_.length=m+1:=⟨st.open_.length-1,by have:=List.length_pos_iff.2 hne;omega⟩;have eF:st.open_[m]?=some x:=by rw[List.getLast?_eq_getElem?,hm] at hx;simpa using hx
 have hsc:=hk.rf x (List.mem_of_getElem? eF)
 have Hr:=hide (show jZ st=⟨st.open_.take m,st.scope.take x.scope,dg st.evs ⟨1,x.name,[],[]⟩,st.gu⟩ by
  unfold jZ;rw[hx];dsimp only;rw[List.dropLast_eq_take,hm,Nat.add_sub_cancel])
 have H:=hide h;have HB:=hide hB;have ho:=h.o;rw[hm] at ho;obtain⟨g,cap,hv,dH,hlt⟩:=ho.form (by omega);have mR:v.Ao=some ⟨g,0,none⟩:=by injection hv
 rw[mR] at ho;have hce:=Sa ho hm eF;have d0:w.cell? ⟨g,m*4,none⟩=some (.string (aa x.written)):=hce 0 (by omega);have d1:w.cell? ⟨g,m*4+1,none⟩=some (.string (aa x.name.ns)):=hce 1 (by omega);have d2:w.cell? ⟨g,m*4+2,none⟩=some (.string (aa x.name.loc)):=hce 2 (by omega);have d3:w.cell? ⟨g,m*4+3,none⟩=some (.int .i64 (x.scope:Int)):=hce 3 (by omega);have c0:=h.c;rw[hm,mR] at c0;have px:=h.blk.lt;have iD:=yD ho;have hcs:=yD h.s;obtain⟨n,hn⟩:∃n,m+1=n:=⟨_,rfl⟩;rw[hn] at c0 iD;have lK:IntKind.i64.wrap ((n:Int)-1)=(m:Int):=by rw[IntWalk.i64_in _ (by have:=hk.op;omega)];omega
 have vC:m<n:=by omega
 have HN:=hide hn;have Hm:=hide hm;have Hk:=hide hk;have kV:=hide hsc;have tS:=hide mR;clear h hB hk hne hx hm eF hsc ho hv mR hce hn
 go_enter Tryz.func61,Tryz.ntmps61
 go_wp2;have k:=ae.new w 107 #[.string (aa x.written),.string (aa x.name.ns),.string (aa x.name.loc),.int .i64 (x.scope:Int)];have Et:=az w (.cells #[.string (aa x.written),.string (aa x.name.ns),.string (aa x.name.loc),.int .i64 (x.scope:Int)] 107);obtain⟨W,hW⟩:∃W,w.alloc (.cells #[.string (aa x.written),.string (aa x.name.ns),.string (aa x.name.loc),.int .i64 (x.scope:Int)] 107)=W:=⟨_,rfl⟩;obtain⟨E,hE⟩:∃E,w.heap.size=E:=⟨_,rfl⟩;rw[hW] at k Et ⊢;rw[hE] at k px ⊢;have HW:=hide (H.out.go Et);have K:=hide k;have c0':W.cell? ⟨P,0,none⟩=some (.slice (some ⟨g,0,none⟩) n v.co):=by rw[HW.out.c,tS.out,Hm.out,HN.out]
 have c1':=HW.out.c1;have f0':=HW.out.f0;have f1':=HW.out.f1;have e3:W.cell? ⟨E,3,none⟩=some (.int .i64 (x.scope:Int)):=k.cell 3;have hne:P≠E:=by omega
 have BA:=hide Et;have HE:=hide hE;have jc:(0:Int)≤(m:Int)∧(m:Int)≤(v.co:Int):=by omega
 have aK:(0:Int)≤(x.scope:Int)∧(x.scope:Int)≤(v.cs:Int):=by have:=kV.out;omega
 clear k hW c0 d0 d1 d2 d3 hE
 go_region
 have Gy:=HW.out.acI (k:=m) (by rw[Hm.out];omega);rw[tS.out] at Gy;have tR:=(Gy.acJ (k:=x.scope) kV.out).go (Below.refl _ _).drew;have Dl:=(((aD.bX BA.out:aD B P w W).setCell (p:=⟨P,0,none⟩) (.inl rfl) (.slice (some ⟨g,0,none⟩) m v.co)).setCell (p:=⟨P,1,none⟩) (.inl rfl) (.slice v.As x.scope v.cs)).drew;have K2:ae ((W.setCell ⟨P,0,none⟩ (.slice (some ⟨g,0,none⟩) m v.co)).setCell ⟨P,1,none⟩ (.slice v.As x.scope v.cs)).drew E 107 _:=(K.out.far (p:=⟨P,0,none⟩) hne.symm _).far (p:=⟨P,1,none⟩) hne.symm _;obtain⟨W2,qH⟩:∃W2,((W.setCell ⟨P,0,none⟩ (.slice (some ⟨g,0,none⟩) m v.co)).setCell ⟨P,1,none⟩ (.slice v.As x.scope v.cs)).drew=W2:=⟨_,rfl⟩;rw[qH] at tR Dl K2 ⊢;have H2:=hide tR;have M2:=hide Dl;have c2:=tR.c2;have x1:W2.cell? ⟨E,1,none⟩=some (.string (aa x.name.ns)):=K2.cell 1;have x2:W2.cell? ⟨E,2,none⟩=some (.string (aa x.name.loc)):=K2.cell 2;have HP:=hide (FW B v.xs ⟨⟨1,x.name,[],[]⟩,none,0⟩ v.Ae v.ce W2.drew tR.e (Nat.le_trans HB.out Dl.size) (by rw[tR.len];exact Hk.out.ev) (fun y hy=>by have:=HW.out.tx Hk.out y hy;show _+0≤_;omega));have HK:=hide (show ae W2.drew P 77 _ from tR.blk);clear Gy tR Dl K2 qH Et c0' c1' f0' f1' e3 jc aK lK vC iD hcs hlt;go_wp2
 go_region_with (go_at_call 60;refine HP.out.mono ?_;rintro e w1 ⟨A,c,xs,rfl,ho,hx,hi,hm⟩;have q2:w1.cell? ⟨P,2,none⟩=some _:=(hm.blk HK.out (by decide)).cell 2;have g2:=(hm.blk HK.out (by decide)).frozen 2)
 all_goals
  go_end0;unfold Ox;rw[Hr.out];exact⟨rfl,((M2.out.drew).trans (hm.fM (by decide))).setCell (p:=⟨P,2,none⟩) (.inl rfl) _,_,(H2.out.go (Below.refl _ _).drew).events hm ho hx hi (L1 _ rfl _)⟩
theorem agV{st:St}{x:El}{m:Nat}(hx:st.open_.getLast?=some x)(hm:st.open_.length=m+1):st.open_[m]?=some x:=by rw[List.getLast?_eq_getElem?,hm] at hx;simpa using hx

theorem akC(B P:Nat)(w:World)(st:St)(v:Pv)(b o:Nat)(t:Tok)(h:PI B P w st none v)(hB:B≤w.heap.size)(hk:Ok st 1000000000 100000000000000000)(ht:qx B w b o t) :
  Calls Tryz.prog 31 #[.pointer (some ⟨P,0,none⟩),.pointer (some ⟨b,o,none⟩)] w (qw B P w (Sx.end_ st t)):=by
 have t1:=ht.c1;have t5:=ht.c5;have H:=hide h;have HB:=hide hB;have Hk:=hide hk;have c0:=h.c
 cases hx:st.open_.getLast? with
 | none=>
  have he:=List.getLast?_eq_none_iff.1 hx;have Hr:=hide (show Sx.end_ st t=.error (t.at_,50) by unfold Sx.end_;rw[hx]);rw[he] at c0;have HW:=hide (fun k=>oL B P (w.drewN k) st none v t.at_ 50 (h.go (below_drewN (Below.refl _ _) k)) hB);have pB:decide ((-1:Int)<0)=true:=by decide
  clear h hB hk ht hx he
  go_enter Tryz.func31,Tryz.ntmps31
  go_wp2
  go_quiet (fail)
  go_wp2_with fail
  refine (HW.out _).mono ?_;rintro e w1 ⟨vb,rfl,h1,h2⟩;have H1:=hide h1;have M1:=hide ((aD.bX (below_drewN (Below.refl _ _) _)).trans h2);clear h1 h2;go_wp2;go_end0;rw[Hr.out];exact⟨rfl,M1.out,_,_,H1.out⟩
 | some x=>
  have hne:st.open_≠[]:=fun e=>by rw[e] at hx;cases hx
  obtain⟨m,hm⟩:∃m,st.open_.length=m+1:=⟨st.open_.length-1,by have:=List.length_pos_iff.2 hne;omega⟩;have eF:=agV hx hm;have ho:=h.o;rw[hm] at ho;obtain⟨g,cap,hv,dH,hlt⟩:=ho.form (by omega);have mR:v.Ao=some ⟨g,0,none⟩:=by injection hv
  rw[mR] at ho;have hce:=Sa ho hm eF;have d0:w.cell? ⟨g,m*4,none⟩=some (.string (aa x.written)):=hce 0 (by omega);rw[hm,mR] at c0;obtain⟨n,hn⟩:∃n,m+1=n:=⟨_,rfl⟩;rw[hn] at c0;have lK:IntKind.i64.wrap ((n:Int)-1)=(m:Int):=by rw[IntWalk.i64_in _ (by have:=hk.op;omega)];omega
  have vC:m<n:=by omega
  have pB:decide ((m:Int)<0)=false:=by rw[decide_eq_false_iff_not];omega
  have hq:((aa x.written).toList != (aa t.name).toList) = !decide (x.written=t.name):=by rw[bne,Dv]
  have oh:=Dv x.written t.name
  by_cases he:x.written=t.name
  ·have Hr:=hide (show Sx.end_ st t=.ok (jZ st) by unfold Sx.end_;rw[hx];exact if_pos he);rw[decide_eq_true he] at hq oh;have HC:=hide (fun k=>XC B P (w.drewN k) st none v (h.go (below_drewN (Below.refl _ _) k)) hB hk hne);clear h hB hk ht hx he hne hm eF ho hv mR hce hn
   go_enter Tryz.func31,Tryz.ntmps31
   go_wp2
   go_quiet (fail)
   go_wp2_with fail
   refine (HC.out _).mono ?_;rintro e w1 ⟨rfl,h2,v2,h1⟩;have H1:=hide h1;have M1:=hide ((aD.bX (below_drewN (Below.refl _ _) _)).trans h2);clear h1 h2;go_wp2;go_end0;rw[Hr.out];exact⟨rfl,M1.out,_,H1.out⟩
  have Hr:=hide (show Sx.end_ st t=.error (t.at_,50) by unfold Sx.end_;rw[hx];exact if_neg he);rw[decide_eq_false he] at hq oh;have HW:=hide (fun k=>oL B P (w.drewN k) st none v t.at_ 50 (h.go (below_drewN (Below.refl _ _) k)) hB);clear h hB hk ht hx he hne hm eF ho hv mR hce hn
  go_enter Tryz.func31,Tryz.ntmps31
  go_wp2
  go_quiet (fail)
  go_wp2_with fail
  refine (HW.out _).mono ?_;rintro e w1 ⟨vb,rfl,h1,h2⟩;have H1:=hide h1;have M1:=hide ((aD.bX (below_drewN (Below.refl _ _) _)).trans h2);clear h1 h2;go_wp2;go_end0;rw[Hr.out];exact⟨rfl,M1.out,_,_,H1.out⟩
end
end Go.Proofs.YtnbmfljhbpfilaaGreatDoor
