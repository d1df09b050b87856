/- Strict: an event behind others: the program's put. And more. -/
import Derived.Test.YtifiiojchlaghaaGreatDoorOk01
import Derived.Test.YtifiiojchlaghaaGreatDoorOk02
import Derived.Test.YtifiiojchlaghaaGreatDoorOk05
import Derived.Test.YtifiiojchlaghaaGreatDoorOk11
import Derived.Deep.QuietTactic
import Derived.BigQuiet
import Derived.Deep.LoopGhost
import Derived.WalkSpells
import Derived.WalkLawsBesides
import Derived.Deep.RegionWith
set_option linter.unusedSimpArgs false
set_option maxHeartbeats 16000000
set_option linter.unusedVariables false
namespace Go.Proofs.YtifiiojchlaghaaGreatDoor
section
open Go.RowKit Tk Sx

structure MovT(B t:Nat)(w w':World):Prop where
 os:w'.os=w.os
 tape:w'.tape=w.tape
 output:w'.output=w.output
 size:w.heap.size≤w'.heap.size
 block:∀k,k<w.heap.size→¬(B≤k∧IsT w k t)→w'.heap[k]?=w.heap[k]?
section
variable {B P t:Nat} {w w1 w':World}
theorem MovT.trans(h:MovT B t w w1)(k:MovT B t w1 w'):MovT B t w w':=by
 refine⟨k.os.trans h.os,k.tape.trans h.tape,k.output.trans h.output,Nat.le_trans h.size k.size,fun i hi hn=>?_⟩;have e:=h.block i hi hn;rw[k.block i (Nat.lt_of_lt_of_le hi h.size) ?_,e];rintro ⟨h1,h2⟩;exact hn ⟨h1,isT_same h2 e.symm⟩
theorem MovT.of_below(h:Below w.heap.size w w'):MovT B t w w':=⟨h.os,h.tape,h.output,h.size,fun k hk _=>h.block k hk⟩
theorem MovT.grown{row:Option Nat}(hg:w.grownBy w' row)(hr:∀k,row=some k→B≤k∧IsT w k t):MovT B t w w' :=
 ⟨hg.os,hg.tape,hg.output,hg.size,fun k h1 hn=>hg.block k h1 (fun e=>hn (hr k e.symm))⟩
theorem MovT.set{p:Addr}(hp:B≤p.block∧IsT w p.block t)(u:Value):MovT B t w (w.setCell p u):=by
 refine⟨rfl,rfl,rfl,by simp[World.setCell],fun k hk hn=>Below.heap_setCell _ _ _ _ (by rintro rfl;exact hn hp)⟩
theorem MovT.blk{g t':Nat}{cs:Array Value}(h:MovT B t w w')(hg:Blk w g t' cs)(ht:t'≠t):Blk w' g t' cs :=
 (h.block g hg.lt (fun hh=>isT_ne hg.isT hh.2 ht)).trans hg
theorem MovT.own{b e size n:Nat}{v:Value}{xs:List Value}(h:MovT B t w w')(ho:w.ownsRow b e size v n xs)(ht:e≠t):w'.ownsRow b e size v n xs:=by
 refine⟨ho.1,?_⟩
 rcases ho.2 with hn|⟨g,cap,cur,rfl,hbg,hgg,rest⟩
 ·exact .inl hn
 exact .inr ⟨g,cap,cur,rfl,hbg,(h.block g (Array.getElem?_eq_some_iff.1 hgg).1 (fun hh=>isT_ne ⟨cur,_,hgg⟩ hh.2 ht)).trans hgg,rest⟩
theorem MovT.mov(h:MovT B t w w')(ht:t=110∨t=152∨t=62):Mov B P w w':=by
 refine⟨h.os,h.tape,h.output,h.size,fun k hk _ hn=>h.block k hk fun hh=>hn ⟨hh.1,?_⟩⟩
 rcases ht with rfl|rfl|rfl
 ·exact .inl hh.2
 ·exact .inr (.inl hh.2)
 exact .inr (.inr hh.2)
end
theorem Ew.In.movt{x:Ew}{B t:Nat}{W W':World}(h:x.In B W)(hm:MovT B t W W')(ht:t≠125):x.In B W':=by
 have sa:∀a,x.A=some a→W'.heap[a.block]?=W.heap[a.block]?:=fun a ha=>hm.block _ (h.ta a ha).lt fun hh=>isT_ne (h.ta a ha) hh.2 ht.symm;exact⟨h.a.same sa hm.size,h.va,h.ta.same sa⟩
theorem Ew.In.as_{x y:Ew}{B:Nat}{W:World}(h:x.In B W)(hA:y.A=x.A)(ha:y.e.attrs=x.e.attrs):y.In B W:=⟨by rw[hA,ha];exact h.a,by rw[hA];exact h.va,by rw[hA];exact h.ta⟩
theorem BadAt.movt{B t:Nat}{w w':World}{b:Bad}{v:Value}(h:BadAt B w b v)(hm:MovT B t w w')(ht:88≠t):BadAt B w' b v:=by
 unfold BadAt at h ⊢
 cases b with
 | none=>exact h
 | some x=>
  obtain⟨F,h1,h2,h3⟩:=h;exact⟨F,h1,h2,hm.blk h3 ht⟩
theorem bstr_app(a b:L):bstr a++bstr b=bstr (a++b):=by
 apply ByteArray.ext
 apply Array.ext'
 rw[←Array.toList_append]<;>simp[bstr]
theorem MovT.drew{B t:Nat}{w w1:World}(h:MovT B t w w1):MovT B t w w1.drew:=⟨h.os,h.tape,h.output,h.size,h.block⟩
theorem ew_len(x:Ew):(ewCells x).length=5:=rfl
theorem ev_one(x:Ew):∀u∈ewCells x,u.oneCell'=true:=by
 intro u hu;simp only[ewCells,List.mem_cons,List.not_mem_nil,or_false] at hu
 rcases hu with rfl|rfl|rfl|rfl|rfl<;>rfl
def PutE(B:Nat)(w:World)(xs:List Ew)(x:Ew)(e:Ending)(w':World):Prop :=
 ∃A c xs',e=.returned (.slice A xs'.length c)∧w'.ownsRow B 62 5 (.slice A xs'.length c) xs'.length (ews xs')∧xs'.map (·.e)=putEv (xs.map (·.e)) x.e∧(∀y∈xs',∃z∈xs++[x],y.A=z.A∧y.e.attrs=z.e.attrs)∧MovT B 62 w w'
theorem PutE.snoc{B:Nat}{w w8:World}{xs:List Ew}{x:Ew}{g cap c:Nat}{A:Option Addr}{o o':Obj}(hB:B≤w.heap.size)(h:w.ownsRow B 62 5 (.slice A xs.length c) xs.length (ews xs))(hown:w8.ownsRow B 62 5 (.slice (some ⟨g,0,none⟩) (xs.length+1) cap) (xs.length+1) (ews xs++ewCells x))
  (hgrow:((w.alloc o).alloc o').grownBy w8 (Value.slice A xs.length c).ownBlock) (hp:putEv (xs.map (·.e)) x.e=xs.map (·.e)++[x.e]):PutE B w xs x (.returned (.slice (some ⟨g,0,none⟩) (xs.length+1) cap)) w8:=by
 refine⟨some ⟨g,0,none⟩,cap,xs++[x],by rw[List.length_append];rfl,by rw[List.length_append];unfold ews at hown ⊢;rw[fm_snoc];exact hown,by rw[hp,List.map_append];rfl,fun y hy=>⟨y,hy,rfl,rfl⟩,?_⟩;have b2:Below w.heap.size w ((w.alloc o).alloc o'):=((Below.refl _ _).alloc (Nat.le_refl _) o).alloc (by simp) o';exact (MovT.of_below b2).trans (.grown hgrow fun k hk=>own_isT (own_go h b2) k hk)
theorem PutE.snoc'{B n:Nat}{w w8:World}{xs:List Ew}{x:Ew}{g cap c:Nat}{A:Option Addr}{o o':Obj}(hB:B≤w.heap.size)(h:w.ownsRow B 62 5 (.slice A n c) n (ews xs))(hn:xs.length=n)(hown:w8.ownsRow B 62 5 (.slice (some ⟨g,0,none⟩) (n+1) cap) (n+1) (ews xs++ewCells x))
  (hgrow:((w.alloc o).alloc o').grownBy w8 (Value.slice A n c).ownBlock) (hp:putEv (xs.map (·.e)) x.e=xs.map (·.e)++[x.e]):PutE B w xs x (.returned (.slice (some ⟨g,0,none⟩) (n+1) cap)) w8:=by
 subst hn;exact PutE.snoc hB h hown hgrow hp
theorem put_other{l:List Ev}{x:Ev}(h:x.kind≠2):putEv l x=l++[x]:=by unfold putEv;rw[if_pos h]
theorem put_nil{x:Ev}(h:x.kind=2):putEv [] x=if x.text=[] then [] else [x]:=by unfold putEv;rw[if_neg (by simpa using h)];rfl
theorem put_text{l:List Ev}{y x:Ev}(h:x.kind=2)(hy:y.kind=2):putEv (l++[y]) x=l++[⟨2,y.name,y.attrs,y.text++x.text⟩]:=by unfold putEv;rw[if_neg (by simpa using h)];simp[hy]
theorem put_behind{l:List Ev}{y x:Ev}(h:x.kind=2)(hy:y.kind≠2):putEv (l++[y]) x=if x.text=[] then l++[y] else l++[y]++[x]:=by unfold putEv;rw[if_neg (by simpa using h)];simp[hy]

theorem put_any(B:Nat)(xs:List Ew)(x:Ew)(A:Option Addr)(c:Nat)(w:World)(h:w.ownsRow B 62 5 (.slice A xs.length c) xs.length (ews xs))(hB:B≤w.heap.size)(hn:xs.length≤1000000000)
  (ht:∀y∈xs,y.e.text.length+x.e.text.length≤1000000000000000000) :
  Calls Tryz.prog 61 #[.slice A xs.length c,.agg #[.int .i8 (x.e.kind:Int),.string (bstr x.e.name.ns),.string (bstr x.e.name.loc),.slice x.A x.e.attrs.length x.c,.string (bstr x.e.text)]] w (PutE B w xs x):=by
 have H:=hide h
 have HX:=hide (show Blk ((w.alloc (.cells (ewCells x).toArray 62)).alloc (.cells (ewCells x).toArray 62)) (w.heap.size+1) 62 (ewCells x).toArray by
  have:=Blk.new (w.alloc (.cells (ewCells x).toArray 62)) 62 (ewCells x).toArray;rwa[World.size_alloc] at this)
 have hempt:((bstr x.e.text).toList==([]:L))=decide (x.e.text=[]):=lit_eq (bstr x.e.text) [];have hemp2:(bstr x.e.text).toList.isEmpty=decide (x.e.text=[]):=by rw[ByteArray.toList_eq,bstr_list];cases x.e.text<;>simp
 by_cases hk:x.e.kind=2
 ·have hk2:((x.e.kind:Int) != 2)=false:=by rw[hk];rfl
  rcases List.eq_nil_or_concat xs with hx|⟨ys,y,hx⟩
  ·have Hp:=hide (show putEv (xs.map (·.e)) x.e=if x.e.text=[] then [] else [x.e] by rw[hx];exact put_nil hk);subst hx
   cases he:decide (x.e.text=[]) with
   | true=>
    rw[he] at hempt hemp2;have Hq:=hide (show putEv (([]:List Ew).map (·.e)) x.e=[] by rw[Hp.out,if_pos (of_decide_eq_true he)]);clear hk h ht he;have HBs:=hide hB;clear hn hB
    go_enter Tryz.func61,Tryz.ntmps61
    go_wp2;go_ret;exact⟨A,c,[],rfl,own_go H.out (below_alloc _ _),Hq.out.symm,(fun y hy=>by cases hy),MovT.of_below (below_alloc _ _)⟩
   | false=>
    rw[he] at hempt hemp2;have Hq:=hide (show putEv (([]:List Ew).map (·.e)) x.e=([]:List Ew).map (·.e)++[x.e] by rw[Hp.out,if_neg (of_decide_eq_false he)];rfl);clear hk h ht he;have HBs:=hide hB;clear hn hB
    go_enter Tryz.func61,Tryz.ntmps61
    go_wp2_with (at_builtin;go_loud (refine wpList_append_elem_at ((w.alloc (.cells (ewCells x).toArray 62)).alloc (.cells (ewCells x).toArray 62)) rfl (.tmp 39) (.tmp 41) 50 rfl B 62 _ 5 80 Tryz.underlying50 info_ev rfl (by omega) (.slice A 0 c) 0 [] rfl ((H.out.alloc _).alloc _) (ewCells x) rfl (ev_one x) (w.heap.size+1) HX.out rfl (by unfold maxLen;omega) (by omega) (by have:=HBs.out;simp;omega) ?_);intro g cap w8 hown8 hgrow8 hlt8)
    go_ret;exact PutE.snoc HBs.out H.out (by assumption) (by assumption) Hq.out
  rw[List.concat_eq_append] at hx;obtain⟨m,hm⟩:∃m,ys.length=m:=⟨_,rfl⟩;have hl:xs.length=m+1:=by rw[hx,←hm];simp
  obtain⟨g,cap,hv,hgb,hlt⟩:=h.form (by omega);cases hv
  have hcl:∀j,j<5→w.cell? ⟨g,m*5+j,none⟩=(ewCells y)[j]?:=fun j hj=>by
   rw[h.cellAt (m*5+j) (by omega)];unfold ews;rw[fm_at ew_len xs m (by omega) j hj];congr 2;simp only[hx];rw[List.getElem_append_right (by omega)];simp[hm]
  have c0:w.cell? ⟨g,m*5,none⟩=some (.int .i8 (y.e.kind:Int)):=hcl 0 (by omega);have c4:w.cell? ⟨g,m*5+4,none⟩=some (.string (bstr y.e.text)):=hcl 4 (by omega);have f4:=h.frozenAt (m*5+4);have ht:=ht y (by rw[hx];simp);obtain⟨n,hnn⟩:∃n,xs.length=n:=⟨_,rfl⟩;have hw1:IntKind.i64.wrap ((n:Int)-1)=(m:Int):=by rw[IntWalk.i64_in _ (by omega)];omega
  have hmn:m<n:=by omega
  rw[hnn] at H ⊢;have HL:=hide hnn;have HN:=hide hnn;have HXs:=hide hx;have Hm:=hide hm;have Hn:=hide (show n≤1000000000 by omega);have HBs:=hide hB;clear h hn hB hl hnn hx hm hcl
  by_cases hy:y.e.kind=2
  ·have hy2:((y.e.kind:Int)==2)=true:=by rw[hy];rfl
   have Ht:=hide ht;have Hq:=hide (show putEv (xs.map (·.e)) x.e=ys.map (·.e)++[⟨2,y.e.name,y.e.attrs,y.e.text++x.e.text⟩] by rw[HXs.out,List.map_append,List.map_cons,List.map_nil,put_text hk hy]);have Hk:=hide hk;have Hy:=hide hy;clear hk hy ht hempt hemp2
   go_enter Tryz.func61,Tryz.ntmps61
   go_wp2;obtain⟨W,hW⟩:∃W,w.alloc (.cells #[.int .i8 (x.e.kind:Int),.string (bstr x.e.name.ns),.string (bstr x.e.name.loc),.slice x.A x.e.attrs.length x.c,.string (bstr x.e.text)] 62)=W:=⟨_,rfl⟩;rw[hW];have hbW:Below w.heap.size w W:=by rw[←hW];exact below_alloc _ _
   have d4:W.cell? ⟨w.heap.size,4,none⟩=some (.string (bstr x.e.text)):=by rw[←hW];exact (Blk.new w 62 #[.int .i8 (x.e.kind:Int),.string (bstr x.e.name.ns),.string (bstr x.e.name.loc),.slice x.A x.e.attrs.length x.c,.string (bstr x.e.text)]).cell 4
   replace c4:W.cell? ⟨g,m*5+4,none⟩=some (.string (bstr y.e.text)):=(hbW.cell (p:=⟨g,m*5+4,none⟩) hlt).trans c4;replace f4:W.frozen? ⟨g,m*5+4,none⟩=false:=(hbW.frozen (p:=⟨g,m*5+4,none⟩) hlt).trans f4;have m1:¬9223372036854775807<(bstr y.e.text).size+(bstr x.e.text).size:=by rw[bstr_size,bstr_size];have:=Ht.out;omega
   have OW:=hide (own_go H.out hbW);have BW:=hide hbW;clear hbW hW
   go_region
   all_goals
    go_wp2;go_ret;refine⟨some ⟨g,0,none⟩,c,ys++[⟨⟨2,y.e.name,y.e.attrs,y.e.text++x.e.text⟩,y.A,y.c⟩],?_,?_,?_,?_,?_⟩
    ·rw[←HN.out,HXs.out,List.length_append,List.length_append];rfl
    ·have h:=(OW.out.stored (m*5+4) (.string (bstr y.e.text++bstr x.e.text))).1
     have e1:(ews xs).set (m*5+4) (.string (bstr y.e.text++bstr x.e.text))=ews (ys++[⟨⟨2,y.e.name,y.e.attrs,y.e.text++x.e.text⟩,y.A,y.c⟩]):=by
      rw[HXs.out];unfold ews;rw[fm_snoc,fm_snoc,List.set_append_right _ _ (by rw[fm_length ew_len,Hm.out];omega),fm_length ew_len,Hm.out,Nat.add_sub_cancel_left,bstr_app];show _++_=_++_;unfold ewCells;rw[Hy.out];rfl
     rw[e1] at h;have e2:(ys++[(⟨⟨2,y.e.name,y.e.attrs,y.e.text++x.e.text⟩,y.A,y.c⟩:Ew)]).length=n:=by rw[←HN.out,HXs.out,List.length_append,List.length_append];rfl
     rw[e2];exact h
    ·rw[Hq.out,List.map_append];rfl
    ·intro z hz
     rcases List.mem_append.1 hz with hz|hz
     ·exact⟨z,by rw[HXs.out];simp[hz],rfl,rfl⟩
     simp only[List.mem_singleton] at hz;subst hz;exact⟨y,by rw[HXs.out];simp,rfl,rfl⟩
    exact ((MovT.of_below BW.out).trans (MovT.set (p:=⟨g,m*5+4,none⟩) ⟨hgb,(own_isT OW.out g rfl).2⟩ _)).drew
  have hy2:((y.e.kind:Int)==2)=false:=by rw[beq_eq_false_iff_ne];omega
  have Hp:=hide (put_behind (l:=ys.map (·.e)) hk hy)
  cases he:decide (x.e.text=[]) with
  | true=>
   rw[he] at hempt hemp2;have Hq:=hide (show putEv (xs.map (·.e)) x.e=xs.map (·.e) by rw[HXs.out,List.map_append,List.map_cons,List.map_nil,Hp.out,if_pos (of_decide_eq_true he)]);clear hk ht he hy
   go_enter Tryz.func61,Tryz.ntmps61
   go_wp2;go_ret;exact⟨_,_,xs,by rw[HN.out];rfl,by rw[HN.out];exact own_go H.out (below_alloc _ _),Hq.out.symm,(fun z hz=>⟨z,List.mem_append_left _ hz,rfl,rfl⟩),MovT.of_below (below_alloc _ _)⟩
  | false=>
   rw[he] at hempt hemp2;have Hq:=hide (show putEv (xs.map (·.e)) x.e=xs.map (·.e)++[x.e] by rw[HXs.out,List.map_append,List.map_cons,List.map_nil,Hp.out,if_neg (of_decide_eq_false he)]);clear hk ht he hy
   go_enter Tryz.func61,Tryz.ntmps61
   go_wp2_with (at_builtin;go_loud (refine wpList_append_elem_at ((w.alloc (.cells (ewCells x).toArray 62)).alloc (.cells (ewCells x).toArray 62)) rfl (.tmp 39) (.tmp 41) 50 rfl B 62 _ 5 80 Tryz.underlying50 info_ev rfl (by omega) (.slice (some ⟨g,0,none⟩) n c) n (ews xs) rfl ((H.out.alloc _).alloc _) (ewCells x) rfl (ev_one x) (w.heap.size+1) HX.out rfl (by unfold maxLen;have:=Hn.out;omega) (by have:=Hn.out;omega) (by have:=HBs.out;simp;omega) ?_);intro g2 cap w8 hown8 hgrow8 hlt8)
   go_ret;exact PutE.snoc' HBs.out H.out HL.out (by assumption) (by assumption) Hq.out
 have hk2:((x.e.kind:Int) != 2)=true:=by rw[bne_iff_ne];omega
 have Hp:=hide (put_other (l:=xs.map (·.e)) hk);have Hn:=hide hn;have HBs:=hide hB;clear hk h hempt hemp2 ht hn hB
 go_enter Tryz.func61,Tryz.ntmps61
 go_wp2_with (at_builtin;go_loud (refine wpList_append_elem_at ((w.alloc (.cells (ewCells x).toArray 62)).alloc (.cells (ewCells x).toArray 62)) rfl (.tmp 9) (.tmp 11) 50 rfl B 62 _ 5 80 Tryz.underlying50 info_ev rfl (by omega) (.slice A xs.length c) xs.length (ews xs) rfl ((H.out.alloc _).alloc _) (ewCells x) rfl (ev_one x) (w.heap.size+1) HX.out rfl (by unfold maxLen;have:=Hn.out;omega) (by have:=Hn.out;omega) (by have:=HBs.out;simp;omega) ?_);intro g cap w8 hown8 hgrow8 hlt8)
 go_ret;exact PutE.snoc HBs.out H.out (by assumption) (by assumption) Hp.out
end
section
open Go.RowKit Tk

end
section
open Go.RowKit Tk Sx

theorem cspace_any(c:UInt8)(w:World):Calls Tryz.prog 94 #[.int .i64 (c.toNat:Nat)] w fun e w'=>e=.returned (.bool (sp c))∧w'=w:=by
 have key:∀d:UInt8,((c.toNat:Int)==(d.toNat:Int))=(c==d):=fun d=>by
  rw[Bool.eq_iff_iff,beq_iff_eq,beq_iff_eq];exact⟨fun h=>UInt8.toNat_inj.1 (by omega),fun h=>by rw[h]⟩
 have e1:((c.toNat:Int)==32)=(c==32):=key 32;have e2:((c.toNat:Int)==9)=(c==9):=key 9;have e3:((c.toNat:Int)==10)=(c==10):=key 10;have e4:((c.toNat:Int)==13)=(c==13):=key 13;unfold sp;clear key;generalize (c==32)=a32 at *
 generalize (c==9)=a9 at *
 generalize (c==10)=a10 at *
 generalize (c==13)=a13 at *

 cases a32 with
 | true=>
  go_enter Tryz.func94,Tryz.ntmps94
  go_wp2
  go_ret
  exact⟨ret_eq1 (bool_eq (by simp)),rfl⟩
 | false=>
  cases a9 with
  | true=>
   go_enter Tryz.func94,Tryz.ntmps94
   go_wp2
   go_ret
   exact⟨ret_eq1 (bool_eq (by simp)),rfl⟩
  | false=>
   cases a10 with
   | true=>
    go_enter Tryz.func94,Tryz.ntmps94
    go_wp2
    go_ret
    exact⟨ret_eq1 (bool_eq (by simp)),rfl⟩
   | false=>
    cases a13 with
    | true=>
     go_enter Tryz.func94,Tryz.ntmps94
     go_wp2
     go_ret
     exact⟨ret_eq1 (bool_eq (by simp)),rfl⟩
    | false=>
     go_enter Tryz.func94,Tryz.ntmps94
     go_wp2
     go_ret
     exact⟨ret_eq1 (bool_eq (by simp)),rfl⟩
theorem blank_any(D:L)(w:World)(hD:D.length≤1000000000):Calls Tryz.prog 64 #[.string (bstr D)] w fun e w'=>e=.returned (.bool (D.all sp))∧Below w.heap.size w w':=by
 have Hs:=hide (bstr_size D);obtain⟨W,g,cap,hconv,hb,hg,hat⟩:=bytes_of (bstr D) w;rw[bstr_list] at hat;have Hat:=hide hat;have HB:=hide hb;clear hat hb;obtain⟨z,hz⟩:∃z,D.all sp=z:=⟨_,rfl⟩;have Hz:=hide (show (D.drop 0).all sp=z by rw[List.drop_zero,hz]);rw[hz];clear hz
 go_enter Tryz.func64,Tryz.ntmps64
 go_wp2;clear hconv
 go_loopg [8] (bstr D).size (fun gk v wr=>∃k:Nat,gk=(bstr D).size-k∧k≤(bstr D).size∧v=.int .i64 (k:Int)∧(D.drop k).all sp=z∧wr=W)
 case atStart=>exact⟨0,rfl,by omega,rfl,Hz.out,rfl⟩
 case round=>
  obtain⟨k,hgk,hk,rfl,hzk,rfl⟩:=hrel;have Hg:=hide hgk;have Hzk:=hide hzk;clear hgk hzk Hz
  by_cases hlt:k<(bstr D).size
  ·obtain⟨c,hc⟩:∃c,D[k]?=some c:=⟨_,List.getElem?_eq_getElem (by rw[←Hs.out];exact hlt)⟩;have hcell:=Hat.out k c hc;have hk0:(0:Int)≤(k:Int):=by omega
   have hcw:IntKind.i64.wrap (c.toNat:Int)=(c.toNat:Int):=IntWalk.i64_in _ (by have:=c.toNat_lt;omega);have hwk:IntKind.i64.wrap ((k:Int)+1)=(k:Int)+1:=IntWalk.i64_in _ (by have:=Hs.out;omega);have HS:=hide (cspace_any c);have hst:z=(sp c&&(D.drop (k+1)).all sp):=by rw[←Hzk.out,drop_cons0 hc,List.all_cons]
   clear hc Hzk
   cases hsp:sp c with
   | true=>
    rw[hsp] at HS hst;have Hn:=hide (show (D.drop (k+1)).all sp=z by rw[hst,Bool.true_and]);clear hst hsp
    go_wp2_with fail
    refine cq (HS.out _) ?_
    go_wp2
    go_roundg ((bstr D).size-(k+1))
    case measure=>have:=Hg.out;omega
    case rel=>exact⟨k+1,rfl,by omega,by first|rfl|go_num,Hn.out,rfl⟩
   | false=>
    rw[hsp] at HS hst;have Hr:=hide (show false=z by rw[hst,Bool.false_and]);clear hst hsp
    go_wp2_with fail
    refine cq (HS.out _) ?_
    go_wp2;go_ret;exact⟨ret_eq1 (bool_eq Hr.out),HB.out⟩
  have Hr:=hide (show true=z by rw[←Hzk.out,List.drop_of_length_le (by rw[←Hs.out];omega)];rfl);clear Hzk;go_wp2;go_ret;exact⟨ret_eq1 (bool_eq Hr.out),HB.out⟩

end
section
open Go.RowKit Tk Sx

structure Ok(st:St)(n M:Nat):Prop where
 op:st.open_.length≤16
 sc:st.scope.length≤n
 ev:st.evs.length≤n
 tx:∀y∈st.evs,y.text.length≤M
 in_:∀x∈st.open_,x.scope≤st.scope.length
 srt:st.open_.Pairwise fun a b=>a.scope≤b.scope
theorem Above.none{B:Nat}:Above B none:=fun a ha=>by cases ha
theorem Typed.none{w:World}{t:Nat}:Typed w none t:=fun a ha=>by cases ha
theorem in_none{B:Nat}{W:World}(e:Ev)(h:e.attrs=[])(c:Nat):(Ew.mk e none c).In B W:=⟨by rw[show (Ew.mk e none c).e.attrs=[] from h];exact Reads.none_,.none,.none⟩
theorem PI.events{B P:Nat}{w w1:World}{st:St}{b:Bad}{v:Pv}{x:Ew}{xs:List Ew}{A:Option Addr}{c:Nat}(h:PI B P w st b v)(hm:MovT B 62 w w1)(ho:w1.ownsRow B 62 5 (.slice A xs.length c) xs.length (ews xs))
  (hx:xs.map (·.e)=putEv (v.xs.map (·.e)) x.e) (hi:∀y∈xs,∃z∈v.xs++[x],y.A=z.A∧y.e.attrs=z.e.attrs) (hin:x.In B w) :
  PI B P (w1.setCell ⟨P,2,none⟩ (.slice A xs.length c)) ⟨st.open_,st.scope,putEv st.evs x.e,st.rooted⟩ b ⟨v.Ao,v.co,v.As,v.cs,A,c,v.vb,xs⟩:=by
 have hb:=hm.blk h.blk (by decide);refine⟨hb.set_ 2 _,h.bp,?_,?_,?_,?_,?_,?_⟩
 ·exact own_far (p:=⟨P,2,none⟩) (hm.own h.o (by decide)) hb (by decide) _
 ·exact own_far (p:=⟨P,2,none⟩) (hm.own h.s (by decide)) hb (by decide) _
 ·exact own_far (p:=⟨P,2,none⟩) ho hb (by decide) _
 ·rw[hx,h.ev]
 ·intro y hy;obtain⟨z,hz,h1,h2⟩:=hi y hy
  have hz1:z.In B w1:=by
   rcases List.mem_append.1 hz with hz|hz
   ·exact (h.inn z hz).movt hm (by decide)
   simp only[List.mem_singleton] at hz;subst hz;exact hin.movt hm (by decide)
  have hy1:y.In B w1:=hz1.as_ h1 h2;exact hy1.mov ((Mov.refl B P w1).setCell (p:=⟨P,2,none⟩) (.inl rfl) _) (ew_notP hy1 hb)
 have h1:=h.bad.movt hm (by decide);exact h1.mov ((Mov.refl B P w1).setCell (p:=⟨P,2,none⟩) (.inl rfl) _) hb (by decide)
def StepR(B P:Nat)(w:World)(r:Except (Nat×Nat) St)(e:Ending)(w':World):Prop :=
 e=.returned (.tuple #[])∧Mov B P w w'∧match r with
  | .ok st=>∃v,PI B P w' st none v
  | .error x=>∃st v,PI B P w' st (some x) v
structure TkB(B:Nat)(w:World)(b o:Nat)(t:Tok):Prop where
 lt:b<B
 c1:w.cell? ⟨b,o+1,none⟩=some (.string (bstr t.name))
 c3:w.cell? ⟨b,o+3,none⟩=some (.bool t.empty)
 c4:w.cell? ⟨b,o+4,none⟩=some (.string (bstr t.text))
 c5:w.cell? ⟨b,o+5,none⟩=some (.int .i64 (t.at_:Int))
theorem PI.c{B P:Nat}{w:World}{st:St}{b:Bad}{v:Pv}(hP:PI B P w st b v):w.cell? ⟨P,0,none⟩=some (.slice v.Ao st.open_.length v.co):=hP.blk.cell 0
theorem PI.c2{B P:Nat}{w:World}{st:St}{b:Bad}{v:Pv}(hP:PI B P w st b v):w.cell? ⟨P,2,none⟩=some (.slice v.Ae v.xs.length v.ce):=hP.blk.cell 2
theorem PI.f2{B P:Nat}{w:World}{st:St}{b:Bad}{v:Pv}(hP:PI B P w st b v):w.frozen? ⟨P,2,none⟩=false:=hP.blk.frozen 2
theorem PI.tx{B P n M:Nat}{w:World}{st:St}{b:Bad}{v:Pv}(hP:PI B P w st b v)(hk:Ok st n M):∀y∈v.xs,y.e.text.length≤M:=fun y hy=>hk.tx _ (by rw[←hP.ev];exact List.mem_map_of_mem hy)

theorem data_any(B P:Nat)(w:World)(st:St)(v:Pv)(b o:Nat)(t:Tok)(h:PI B P w st none v)(hB:B≤w.heap.size)(hk:Ok st 1000000000 100000000000000000)(ht:TkB B w b o t)(htx:t.text.length≤100000000) :
  Calls Tryz.prog 37 #[.pointer (some ⟨P,0,none⟩),.pointer (some ⟨b,o,none⟩)] w (StepR B P w (Sx.data st t)):=by
 have c0:=h.c;have c2:=h.c2;have f2:=h.f2;have t4:=ht.c4;have t5:=ht.c5;have H:=hide h;have HB:=hide hB;obtain⟨n,hn⟩:∃n,st.open_.length=n:=⟨_,rfl⟩;rw[hn] at c0
 by_cases h0:st.open_=[]
 ·have hn0:n=0:=by rw[←hn,h0];rfl
  have Hr:=hide (show Sx.data st t=.error (t.at_,50) by unfold Sx.data;rw[if_pos h0]);have HW:=hide (wrong_any B P w st none v t.at_ 50 h hB);subst hn0;clear h hB hk ht htx hn h0
  go_enter Tryz.func37,Tryz.ntmps37
  go_wp2_with fail
  refine HW.out.mono ?_;rintro e w1 ⟨vb,rfl,h1,h2⟩;have H1:=hide h1;have H2:=hide h2;clear h1 h2;go_wp2;go_end0;rw[Hr.out];exact⟨rfl,H2.out,st,_,H1.out⟩
 have hn0:decide ((n:Int)=0)=false:=by rw[decide_eq_false_iff_not];intro e;exact h0 (List.eq_nil_of_length_eq_zero (by omega))
 have hn1:((n:Int)==0)=false:=by rw[beq_eq_false_iff_ne];intro e;exact h0 (List.eq_nil_of_length_eq_zero (by omega))
 have Hr:=hide (show Sx.data st t=.ok (putSt st t.text) by unfold Sx.data;rw[if_neg h0]);have HP:=hide (put_any B v.xs ⟨textEv t.text,none,0⟩ v.Ae v.ce w.drew h.e hB (by rw[h.len];exact hk.ev) (fun y hy=>by have:=h.tx hk y hy;show _+t.text.length≤_;omega));have HK:=hide (show Blk w.drew P 80 _ from h.blk);clear h hB hk ht htx hn h0
 go_enter Tryz.func37,Tryz.ntmps37
 go_wp2
 go_region_with (go_at_call 61;refine HP.out.mono ?_;rintro e w1 ⟨A,c,xs,rfl,ho,hx,hi,hm⟩;have q2:w1.cell? ⟨P,2,none⟩=some _:=(hm.blk HK.out (by decide)).cell 2;have g2:=(hm.blk HK.out (by decide)).frozen 2)
 all_goals
  go_end0;rw[Hr.out];exact⟨rfl,(((Mov.refl B P w).drew).trans (hm.mov (by decide))).setCell (p:=⟨P,2,none⟩) (.inl rfl) _,_,(H.out.go (Below.refl _ _).drew).events hm ho hx hi (in_none _ rfl _)⟩

theorem sref_len:∀(f k:Nat) (l out:L),sref f k l=.ok out→out.length≤4*l.length:=by
 intro f
 induction f with
 | zero=>intro k l out h;rw[sref] at h;cases h;simp
 | succ f ih=>
 intro k l out h
 cases l with
 | nil=>rw[sref] at h;cases h;simp
 | cons c r=>
  by_cases hc:c=38
  ·subst hc
   cases he:ends r with
   | none=>rw[sref_none he] at h;cases h
   | some n=>
    have hn:=ends_le he
    cases hs:scalar (r.take n) with
    | none=>rw[sref_bad he hs] at h;cases h
    | some v=>
     rw[sref_ref he hs] at h
     cases hy:sref f (k+n+2) (r.drop (n+1)) with
     | error a=>rw[hy] at h;cases h
     | ok o=>
      rw[hy] at h;simp only[glueE,Except.ok.injEq] at h;subst h;have:=ih _ _ _ hy;have hp:=putL_short (v:Int);rw[List.length_drop] at this;rw[List.length_append,List.length_cons];omega
  rw[sref_byte hc] at h
  cases hy:sref f (k+1) r with
  | error a=>rw[hy] at h;cases h
  | ok o=>
   rw[hy] at h;simp only[glueE,Except.ok.injEq] at h;subst h;have:=ih _ _ _ hy;rw[List.length_append,List.length_cons,List.length_cons];simp;omega

theorem stext_any(B P:Nat)(w:World)(st:St)(v:Pv)(b o:Nat)(t:Tok)(h:PI B P w st none v)(hB:B≤w.heap.size)(hk:Ok st 1000000000 100000000000000000)(ht:TkB B w b o t)(htx:t.text.length≤100000) :
  Calls Tryz.prog 36 #[.pointer (some ⟨P,0,none⟩),.pointer (some ⟨b,o,none⟩)] w (StepR B P w (Sx.text st t)):=by
 have t4:=ht.c4;have HS:=hide (strict_any (bstr t.text) w (by rw[bstr_size];exact htx));rw[bstr_list,bstr_size] at HS;have HBl:=hide (fun W=>blank_any t.text W (by omega));have H:=hide h;have HB:=hide hB;have Ht:=hide ht;have Hk:=hide hk;have Htx:=hide htx;clear hk ht htx;obtain⟨y,hy⟩:∃y,sref t.text.length 0 t.text=y:=⟨_,rfl⟩;rw[hy] at HS;obtain⟨bl,hbl⟩:∃bl,t.text.all sp=bl:=⟨_,rfl⟩;rw[hbl] at HBl;obtain⟨n,hn⟩:∃n,st.open_.length=n:=⟨_,rfl⟩;have HN:=hide hn
 by_cases h0:st.open_=[]
 ·have hn0:n=0:=by rw[←hn,h0];rfl
  subst hn0
  cases bl with
  | true=>
   have Hr:=hide (show Sx.text st t=.ok st by unfold Sx.text;rw[if_pos h0,if_pos hbl]);clear h0 hn hbl hy h hB
   cases y with
   | _=>
    unfold strV at HS
    go_enter Tryz.func36,Tryz.ntmps36
    go_wp2_with fail
    refine HS.out.mono ?_;rintro e w1 ⟨rfl,b1⟩;have H1:=hide (H.out.go b1);have c0:=H1.out.c;rw[HN.out] at c0;have t4':=(b1.cell (p:=⟨b,o+4,none⟩) (by have:=Ht.out.lt;have:=HB.out;show b<_;omega)).trans t4;have M1:=hide (Mov.of_below (B:=B) (P:=P) b1);clear b1
    go_wp2_with fail
    refine (HBl.out _).mono ?_;rintro e w2 ⟨rfl,b2⟩;have H2:=hide (H1.out.go b2);have M2:=hide (M1.out.go b2);clear b2;go_wp2;go_end0;rw[Hr.out];exact⟨rfl,M2.out,_,H2.out⟩
  | false=>
   have Hr:=hide (show Sx.text st t=.error (t.at_,50) by unfold Sx.text;rw[if_pos h0,if_neg (by rw[hbl];simp)]);clear h0 hn hbl hy h hB
   cases y with
   | _=>
    unfold strV at HS
    go_enter Tryz.func36,Tryz.ntmps36
    go_wp2_with fail
    refine HS.out.mono ?_;rintro e w1 ⟨rfl,b1⟩;have H1:=hide (H.out.go b1);have c0:=H1.out.c;rw[HN.out] at c0;have t4':=(b1.cell (p:=⟨b,o+4,none⟩) (by have:=Ht.out.lt;have:=HB.out;show b<_;omega)).trans t4;have M1:=hide (Mov.of_below (B:=B) (P:=P) b1);clear b1
    go_wp2_with fail
    refine (HBl.out _).mono ?_;rintro e w2 ⟨rfl,b2⟩;have H2:=hide (H1.out.go b2);have M2:=hide (M1.out.go b2);have t5':=((M2.out.below (C:=B) (Nat.le_refl _) H.out.bp HB.out).cell (p:=⟨b,o+5,none⟩) Ht.out.lt).trans Ht.out.c5;have HW:=hide (wrong_any B P w2 st none v t.at_ 50 H2.out (Nat.le_trans HB.out M2.out.size));clear b2
    go_wp2_with fail
    refine HW.out.mono ?_;rintro e w3 ⟨vb,rfl,h1,h2⟩;have H3:=hide h1;have M3:=hide (M2.out.trans h2);clear h1 h2;go_wp2;go_end0;rw[Hr.out];exact⟨rfl,M3.out,_,_,H3.out⟩
 have hn0:0<n:=by rw[←hn];exact List.length_pos_iff.2 h0
 cases y with
 | ok s=>
  have Hr:=hide (show Sx.text st t=.ok (putSt st s) by unfold Sx.text;rw[if_neg h0,hy]);have Hs:=hide (show s.length≤400000 by have:=sref_len _ _ _ _ hy;have:=Htx.out;omega);clear h0 hn hbl hy h hB;unfold strV at HS
  go_enter Tryz.func36,Tryz.ntmps36
  go_wp2_with fail
  refine HS.out.mono ?_;rintro e w1 ⟨rfl,b1⟩;have H1:=hide (H.out.go b1);have c0:=H1.out.c;have c2:=H1.out.c2;rw[HN.out] at c0;have M1:=hide (Mov.of_below (B:=B) (P:=P) b1);have HP:=hide (put_any B v.xs ⟨textEv s,none,0⟩ v.Ae v.ce w1 H1.out.e (Nat.le_trans HB.out b1.size) (by rw[H1.out.len];exact Hk.out.ev) (fun y hy=>by have:=H1.out.tx Hk.out y hy;have:=Hs.out;show _+s.length≤_;omega));clear b1
  go_wp2_with fail
  refine HP.out.mono ?_;rintro e w2 ⟨A,c,xs,rfl,ho,hx,hi,hm⟩;have q2:w2.cell? ⟨P,2,none⟩=some _:=(hm.blk H1.out.blk (by decide)).cell 2;have g2:=(hm.blk H1.out.blk (by decide)).frozen 2;have H2:=hide (H1.out.events hm ho hx hi (in_none _ rfl _));have M2:=hide ((M1.out.trans (hm.mov (by decide))).setCell (p:=⟨P,2,none⟩) (.inl rfl) (.slice A xs.length c));clear ho hx hi hm;go_wp2;go_end0;rw[Hr.out];exact⟨rfl,M2.out,_,H2.out⟩
 | error a=>
  have Hr:=hide (show Sx.text st t=.error (t.at_,50) by unfold Sx.text;rw[if_neg h0,hy]);clear h0 hn hbl hy h hB;unfold strV at HS
  go_enter Tryz.func36,Tryz.ntmps36
  go_wp2_with fail
  refine HS.out.mono ?_;rintro e w1 ⟨rfl,b1⟩;have H1:=hide (H.out.go b1);have c0:=H1.out.c;rw[HN.out] at c0;have t5':=(b1.cell (p:=⟨b,o+5,none⟩) (by have:=Ht.out.lt;have:=HB.out;show b<_;omega)).trans Ht.out.c5;have M1:=hide (Mov.of_below (B:=B) (P:=P) b1);have HW:=hide (wrong_any B P w1 st none v t.at_ 50 H1.out (Nat.le_trans HB.out b1.size));clear b1
  go_wp2_with fail
  refine HW.out.mono ?_;rintro e w3 ⟨vb,rfl,h1,h2⟩;have H3:=hide h1;have M3:=hide (M1.out.trans h2);clear h1 h2;go_wp2;go_end0;rw[Hr.out];exact⟨rfl,M3.out,_,_,H3.out⟩
end
section
open Go.RowKit Tk Sx

section
variable {B P:Nat} {w:World} {st:St} {b:Bad} {v:Pv}
theorem PI.c1(hP:PI B P w st b v):w.cell? ⟨P,1,none⟩=some (.slice v.As st.scope.length v.cs):=hP.blk.cell 1
theorem PI.f0(hP:PI B P w st b v):w.frozen? ⟨P,0,none⟩=false:=hP.blk.frozen 0
theorem PI.f1(hP:PI B P w st b v):w.frozen? ⟨P,1,none⟩=false:=hP.blk.frozen 1
theorem PI.cutO(h:PI B P w st b v){k:Nat}(hk:k≤st.open_.length):PI B P (w.setCell ⟨P,0,none⟩ (.slice v.Ao k v.co)) ⟨st.open_.take k,st.scope,st.evs,st.rooted⟩ b v:=by
 have hl:(st.open_.take k).length=k:=by rw[List.length_take];omega
 refine⟨?_,h.bp,?_,own_far (p:=⟨P,0,none⟩) h.s h.blk (by decide) _,own_far (p:=⟨P,0,none⟩) h.e h.blk (by decide) _,h.ev,fun x hx=>(h.inn x hx).mov ((Mov.refl B P w).setCell (p:=⟨P,0,none⟩) (.inl rfl) _) (ew_notP (h.inn x hx) h.blk),
  h.bad.mov ((Mov.refl B P w).setCell (p:=⟨P,0,none⟩) (.inl rfl) _) h.blk (by decide)⟩
 ·have:=h.blk.set_ 0 (.slice v.Ao k v.co);unfold prCells at this ⊢;dsimp only;rw[hl];exact this
 dsimp only;rw[hl];have:=own_far (p:=⟨P,0,none⟩) (own_take h.o hk) h.blk (by decide) (.slice v.Ao k v.co);unfold els;rw[fm_take (m:=4) (fun _=>rfl)];exact this
theorem PI.cutS(h:PI B P w st b v){k:Nat}(hk:k≤st.scope.length):PI B P (w.setCell ⟨P,1,none⟩ (.slice v.As k v.cs)) ⟨st.open_,st.scope.take k,st.evs,st.rooted⟩ b v:=by
 have hl:(st.scope.take k).length=k:=by rw[List.length_take];omega
 refine⟨?_,h.bp,own_far (p:=⟨P,1,none⟩) h.o h.blk (by decide) _,?_,own_far (p:=⟨P,1,none⟩) h.e h.blk (by decide) _,h.ev,fun x hx=>(h.inn x hx).mov ((Mov.refl B P w).setCell (p:=⟨P,1,none⟩) (.inl rfl) _) (ew_notP (h.inn x hx) h.blk),
  h.bad.mov ((Mov.refl B P w).setCell (p:=⟨P,1,none⟩) (.inl rfl) _) h.blk (by decide)⟩
 ·have:=h.blk.set_ 1 (.slice v.As k v.cs);unfold prCells at this ⊢;dsimp only;rw[hl];exact this
 dsimp only;rw[hl];have:=own_far (p:=⟨P,1,none⟩) (own_take h.s hk) h.blk (by decide) (.slice v.As k v.cs);unfold dcls;rw[fm_take (m:=2) (fun _=>rfl)];exact this
end
def CloseR(B P:Nat)(w:World)(st:St)(b:Bad)(e:Ending)(w':World):Prop:=e=.returned (.tuple #[])∧Mov B P w w'∧∃v,PI B P w' (closeSt st) b v
theorem el_cells{w:World}{B g c n m:Nat}{l:List El}{x:El}(h:w.ownsRow B 110 4 (.slice (some ⟨g,0,none⟩) n c) n (els l))(hn:l.length=n)(hx:l[m]?=some x):∀j,j<4→w.cell? ⟨g,m*4+j,none⟩=(elCells x)[j]?:=fun j hj=>by
 obtain⟨h1,h2⟩:=List.getElem?_eq_some_iff.1 hx;rw[h.cellAt (m*4+j) (by omega)];unfold els;rw[fm_at (m:=4) (fun _=>rfl) l m h1 j hj,h2]

theorem sclose_any(B P:Nat)(w:World)(st:St)(bd:Bad)(v:Pv)(h:PI B P w st bd v)(hB:B≤w.heap.size)(hk:Ok st 1000000000 100000000000000000)(hne:st.open_≠[]) :
  Calls Tryz.prog 62 #[.pointer (some ⟨P,0,none⟩)] w (CloseR B P w st bd):=by
 obtain⟨x,hx⟩:∃x,st.open_.getLast?=some x:=by
  cases hl:st.open_.getLast? with
  | none=>exact absurd (List.getLast?_eq_none_iff.1 hl) hne
  | some x=>exact⟨x,rfl⟩
 obtain⟨m,hm⟩:∃m,st.open_.length=m+1:=⟨st.open_.length-1,by have:=List.length_pos_iff.2 hne;omega⟩;have hxm:st.open_[m]?=some x:=by rw[List.getLast?_eq_getElem?,hm] at hx;simpa using hx
 have hsc:=hk.in_ x (List.mem_of_getElem? hxm)
 have Hr:=hide (show closeSt st=⟨st.open_.take m,st.scope.take x.scope,putEv st.evs ⟨1,x.name,[],[]⟩,st.rooted⟩ by
  unfold closeSt;rw[hx];dsimp only;rw[List.dropLast_eq_take,hm,Nat.add_sub_cancel])
 have H:=hide h;have HB:=hide hB;have ho:=h.o;rw[hm] at ho;obtain⟨g,cap,hv,hgb,hlt⟩:=ho.form (by omega);have hAo:v.Ao=some ⟨g,0,none⟩:=by injection hv
 rw[hAo] at ho;have hce:=el_cells ho hm hxm;have d0:w.cell? ⟨g,m*4,none⟩=some (.string (bstr x.written)):=hce 0 (by omega);have d1:w.cell? ⟨g,m*4+1,none⟩=some (.string (bstr x.name.ns)):=hce 1 (by omega);have d2:w.cell? ⟨g,m*4+2,none⟩=some (.string (bstr x.name.loc)):=hce 2 (by omega);have d3:w.cell? ⟨g,m*4+3,none⟩=some (.int .i64 (x.scope:Int)):=hce 3 (by omega);have c0:=h.c;rw[hm,hAo] at c0;have hPl:=h.blk.lt;have hco:=own_cap ho;have hcs:=own_cap h.s;obtain⟨n,hn⟩:∃n,m+1=n:=⟨_,rfl⟩;rw[hn] at c0 hco;have hw1:IntKind.i64.wrap ((n:Int)-1)=(m:Int):=by rw[IntWalk.i64_in _ (by have:=hk.op;omega)];omega
 have hmn:m<n:=by omega
 have HN:=hide hn;have Hm:=hide hm;have Hk:=hide hk;have Hsc:=hide hsc;have HAo:=hide hAo;clear h hB hk hne hx hm hxm hsc ho hv hAo hce hn
 go_enter Tryz.func62,Tryz.ntmps62
 go_wp2;have k:=Blk.new w 110 #[.string (bstr x.written),.string (bstr x.name.ns),.string (bstr x.name.loc),.int .i64 (x.scope:Int)];have hba:=below_alloc w (.cells #[.string (bstr x.written),.string (bstr x.name.ns),.string (bstr x.name.loc),.int .i64 (x.scope:Int)] 110);obtain⟨W,hW⟩:∃W,w.alloc (.cells #[.string (bstr x.written),.string (bstr x.name.ns),.string (bstr x.name.loc),.int .i64 (x.scope:Int)] 110)=W:=⟨_,rfl⟩;obtain⟨E,hE⟩:∃E,w.heap.size=E:=⟨_,rfl⟩;rw[hW] at k hba ⊢;rw[hE] at k hPl ⊢;have HW:=hide (H.out.go hba);have K:=hide k;have c0':W.cell? ⟨P,0,none⟩=some (.slice (some ⟨g,0,none⟩) n v.co):=by rw[HW.out.c,HAo.out,Hm.out,HN.out]
 have c1':=HW.out.c1;have f0':=HW.out.f0;have f1':=HW.out.f1;have e3:W.cell? ⟨E,3,none⟩=some (.int .i64 (x.scope:Int)):=k.cell 3;have hne:P≠E:=by omega
 have BA:=hide hba;have HE:=hide hE;have hbd:(0:Int)≤(m:Int)∧(m:Int)≤(v.co:Int):=by omega
 have hbs:(0:Int)≤(x.scope:Int)∧(x.scope:Int)≤(v.cs:Int):=by have:=Hsc.out;omega
 clear k hW c0 d0 d1 d2 d3 hE
 go_region
 have H2a:=HW.out.cutO (k:=m) (by rw[Hm.out];omega);rw[HAo.out] at H2a;have H2b:=(H2a.cutS (k:=x.scope) Hsc.out).go (Below.refl _ _).drew;have M2a:=(((Mov.of_below BA.out:Mov B P w W).setCell (p:=⟨P,0,none⟩) (.inl rfl) (.slice (some ⟨g,0,none⟩) m v.co)).setCell (p:=⟨P,1,none⟩) (.inl rfl) (.slice v.As x.scope v.cs)).drew;have K2:Blk ((W.setCell ⟨P,0,none⟩ (.slice (some ⟨g,0,none⟩) m v.co)).setCell ⟨P,1,none⟩ (.slice v.As x.scope v.cs)).drew E 110 _:=(K.out.far (p:=⟨P,0,none⟩) hne.symm _).far (p:=⟨P,1,none⟩) hne.symm _;obtain⟨W2,hW2⟩:∃W2,((W.setCell ⟨P,0,none⟩ (.slice (some ⟨g,0,none⟩) m v.co)).setCell ⟨P,1,none⟩ (.slice v.As x.scope v.cs)).drew=W2:=⟨_,rfl⟩;rw[hW2] at H2b M2a K2 ⊢;have H2:=hide H2b;have M2:=hide M2a;have c2:=H2b.c2;have x1:W2.cell? ⟨E,1,none⟩=some (.string (bstr x.name.ns)):=K2.cell 1;have x2:W2.cell? ⟨E,2,none⟩=some (.string (bstr x.name.loc)):=K2.cell 2;have HP:=hide (put_any B v.xs ⟨⟨1,x.name,[],[]⟩,none,0⟩ v.Ae v.ce W2.drew H2b.e (Nat.le_trans HB.out M2a.size) (by rw[H2b.len];exact Hk.out.ev) (fun y hy=>by have:=HW.out.tx Hk.out y hy;show _+0≤_;omega));have HK:=hide (show Blk W2.drew P 80 _ from H2b.blk);clear H2a H2b M2a K2 hW2 hba c0' c1' f0' f1' e3 hbd hbs hw1 hmn hco hcs hlt;go_wp2
 go_region_with (go_at_call 61;refine HP.out.mono ?_;rintro e w1 ⟨A,c,xs,rfl,ho,hx,hi,hm⟩;have q2:w1.cell? ⟨P,2,none⟩=some _:=(hm.blk HK.out (by decide)).cell 2;have g2:=(hm.blk HK.out (by decide)).frozen 2)
 all_goals
  go_end0;unfold CloseR;rw[Hr.out];exact⟨rfl,((M2.out.drew).trans (hm.mov (by decide))).setCell (p:=⟨P,2,none⟩) (.inl rfl) _,_,(H2.out.go (Below.refl _ _).drew).events hm ho hx hi (in_none _ rfl _)⟩
theorem last_at{st:St}{x:El}{m:Nat}(hx:st.open_.getLast?=some x)(hm:st.open_.length=m+1):st.open_[m]?=some x:=by rw[List.getLast?_eq_getElem?,hm] at hx;simpa using hx

theorem send_any(B P:Nat)(w:World)(st:St)(v:Pv)(b o:Nat)(t:Tok)(h:PI B P w st none v)(hB:B≤w.heap.size)(hk:Ok st 1000000000 100000000000000000)(ht:TkB B w b o t) :
  Calls Tryz.prog 35 #[.pointer (some ⟨P,0,none⟩),.pointer (some ⟨b,o,none⟩)] w (StepR B P w (Sx.end_ st t)):=by
 have t1:=ht.c1;have t5:=ht.c5;have H:=hide h;have HB:=hide hB;have Hk:=hide hk;have c0:=h.c
 cases hx:st.open_.getLast? with
 | none=>
  have he:=List.getLast?_eq_none_iff.1 hx;have Hr:=hide (show Sx.end_ st t=.error (t.at_,50) by unfold Sx.end_;rw[hx]);rw[he] at c0;have HW:=hide (fun k=>wrong_any B P (w.drewN k) st none v t.at_ 50 (h.go (below_drewN (Below.refl _ _) k)) hB);have hlo:decide ((-1:Int)<0)=true:=by decide
  clear h hB hk ht hx he
  go_enter Tryz.func35,Tryz.ntmps35
  go_wp2
  go_quiet (fail)
  go_wp2_with fail
  refine (HW.out _).mono ?_;rintro e w1 ⟨vb,rfl,h1,h2⟩;have H1:=hide h1;have M1:=hide ((Mov.of_below (below_drewN (Below.refl _ _) _)).trans h2);clear h1 h2;go_wp2;go_end0;rw[Hr.out];exact⟨rfl,M1.out,_,_,H1.out⟩
 | some x=>
  have hne:st.open_≠[]:=fun e=>by rw[e] at hx;cases hx
  obtain⟨m,hm⟩:∃m,st.open_.length=m+1:=⟨st.open_.length-1,by have:=List.length_pos_iff.2 hne;omega⟩;have hxm:=last_at hx hm;have ho:=h.o;rw[hm] at ho;obtain⟨g,cap,hv,hgb,hlt⟩:=ho.form (by omega);have hAo:v.Ao=some ⟨g,0,none⟩:=by injection hv
  rw[hAo] at ho;have hce:=el_cells ho hm hxm;have d0:w.cell? ⟨g,m*4,none⟩=some (.string (bstr x.written)):=hce 0 (by omega);rw[hm,hAo] at c0;obtain⟨n,hn⟩:∃n,m+1=n:=⟨_,rfl⟩;rw[hn] at c0;have hw1:IntKind.i64.wrap ((n:Int)-1)=(m:Int):=by rw[IntWalk.i64_in _ (by have:=hk.op;omega)];omega
  have hmn:m<n:=by omega
  have hlo:decide ((m:Int)<0)=false:=by rw[decide_eq_false_iff_not];omega
  have hq:((bstr x.written).toList != (bstr t.name).toList) = !decide (x.written=t.name):=by rw[bne,beq_bstr]
  have hq2:=beq_bstr x.written t.name
  by_cases he:x.written=t.name
  ·have Hr:=hide (show Sx.end_ st t=.ok (closeSt st) by unfold Sx.end_;rw[hx];exact if_pos he);rw[decide_eq_true he] at hq hq2;have HC:=hide (fun k=>sclose_any B P (w.drewN k) st none v (h.go (below_drewN (Below.refl _ _) k)) hB hk hne);clear h hB hk ht hx he hne hm hxm ho hv hAo hce hn
   go_enter Tryz.func35,Tryz.ntmps35
   go_wp2
   go_quiet (fail)
   go_wp2_with fail
   refine (HC.out _).mono ?_;rintro e w1 ⟨rfl,h2,v2,h1⟩;have H1:=hide h1;have M1:=hide ((Mov.of_below (below_drewN (Below.refl _ _) _)).trans h2);clear h1 h2;go_wp2;go_end0;rw[Hr.out];exact⟨rfl,M1.out,_,H1.out⟩
  have Hr:=hide (show Sx.end_ st t=.error (t.at_,50) by unfold Sx.end_;rw[hx];exact if_neg he);rw[decide_eq_false he] at hq hq2;have HW:=hide (fun k=>wrong_any B P (w.drewN k) st none v t.at_ 50 (h.go (below_drewN (Below.refl _ _) k)) hB);clear h hB hk ht hx he hne hm hxm ho hv hAo hce hn
  go_enter Tryz.func35,Tryz.ntmps35
  go_wp2
  go_quiet (fail)
  go_wp2_with fail
  refine (HW.out _).mono ?_;rintro e w1 ⟨vb,rfl,h1,h2⟩;have H1:=hide h1;have M1:=hide ((Mov.of_below (below_drewN (Below.refl _ _) _)).trans h2);clear h1 h2;go_wp2;go_end0;rw[Hr.out];exact⟨rfl,M1.out,_,_,H1.out⟩
end
end Go.Proofs.YtifiiojchlaghaaGreatDoor
