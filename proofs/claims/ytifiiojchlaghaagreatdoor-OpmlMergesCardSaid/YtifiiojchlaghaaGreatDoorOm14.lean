/- Strict: an event behind others: the program's put. And more. -/
import Derived.Test.YtifiiojchlaghaaGreatDoorOm02
import Derived.Test.YtifiiojchlaghaaGreatDoorOm06
import Derived.Test.YtifiiojchlaghaaGreatDoorOm13
import Derived.Deep.QuietTactic
import Derived.BigQuiet
import Derived.Deep.LoopGhost
import Derived.WalkSpells
import Derived.WalkLawsBesides
import Derived.Deep.RegionWith
set_option linter.unusedSimpArgs false
set_option maxHeartbeats 16000000
set_option linter.unusedVariables false
namespace Go.Proofs.YtifiiojchlaghaaGreatDoor
section
open Go.RowKit Tk Sx

structure cg(B t:Nat)(w w':World):Prop where
 os:w'.os=w.os
 tape:w'.tape=w.tape
 output:w'.output=w.output
 size:w.heap.size≤w'.heap.size
 block:∀k,k<w.heap.size→¬(B≤k∧bJ w k t)→w'.heap[k]?=w.heap[k]?
section
variable {B P t:Nat} {w w1 w':World}
theorem cg.trans(h:cg B t w w1)(k:cg B t w1 w'):cg B t w w':=by
 refine⟨k.os.trans h.os,k.tape.trans h.tape,k.output.trans h.output,Nat.le_trans h.size k.size,fun i hi hn=>?_⟩;have e:=h.block i hi hn;rw[k.block i (Nat.lt_of_lt_of_le hi h.size) ?_,e];rintro ⟨h1,h2⟩;exact hn ⟨h1,Bl h2 e.symm⟩
theorem cg.b7(h:Below w.heap.size w w'):cg B t w w':=⟨h.os,h.tape,h.output,h.size,fun k hk _=>h.block k hk⟩
theorem cg.grown{row:Option Nat}(hg:w.grownBy w' row)(hr:∀k,row=some k→B≤k∧bJ w k t):cg B t w w' :=
 ⟨hg.os,hg.tape,hg.output,hg.size,fun k h1 hn=>hg.block k h1 (fun e=>hn (hr k e.symm))⟩
theorem cg.set{p:Addr}(hp:B≤p.block∧bJ w p.block t)(u:Value):cg B t w (w.setCell p u):=by
 refine⟨rfl,rfl,rfl,by simp[World.setCell],fun k hk hn=>Below.heap_setCell _ _ _ _ (by rintro rfl;exact hn hp)⟩
theorem cg.blk{g t':Nat}{cs:Array Value}(h:cg B t w w')(hg:ae w g t' cs)(ht:t'≠t):ae w' g t' cs :=
 (h.block g hg.lt (fun hh=>gI hg.ft hh.2 ht)).trans hg
theorem cg.own{b e size n:Nat}{v:Value}{xs:List Value}(h:cg B t w w')(ho:w.ownsRow b e size v n xs)(ht:e≠t):w'.ownsRow b e size v n xs:=by
 refine⟨ho.1,?_⟩
 rcases ho.2 with hn|⟨g,cap,cur,rfl,jo,et,rest⟩
 ·exact .inl hn
 exact .inr ⟨g,cap,cur,rfl,jo,(h.block g (Array.getElem?_eq_some_iff.1 et).1 (fun hh=>gI ⟨cur,_,et⟩ hh.2 ht)).trans et,rest⟩
theorem cg.gv(h:cg B t w w')(ht:t=110∨t=152∨t=62):aH B P w w':=by
 refine⟨h.os,h.tape,h.output,h.size,fun k hk _ hn=>h.block k hk fun hh=>hn ⟨hh.1,?_⟩⟩
 rcases ht with rfl|rfl|rfl
 ·exact .inl hh.2
 ·exact .inr (.inl hh.2)
 exact .inr (.inr hh.2)
end
theorem Ew.In.tR{x:Ew}{B t:Nat}{W W':World}(h:x.In B W)(hm:cg B t W W')(ht:t≠125):x.In B W':=by
 have sa:∀a,x.A=some a→W'.heap[a.block]?=W.heap[a.block]?:=fun a ha=>hm.block _ (h.ta a ha).lt fun hh=>gI (h.ta a ha) hh.2 ht.symm;exact⟨h.a.same sa hm.size,h.va,h.ta.same sa⟩
theorem Ew.In.aw{x y:Ew}{B:Nat}{W:World}(h:x.In B W)(hA:y.A=x.A)(ha:y.e.attrs=x.e.attrs):y.In B W:=⟨by rw[hA,ha];exact h.a,by rw[hA];exact h.va,by rw[hA];exact h.ta⟩
theorem gN.tR{B t:Nat}{w w':World}{b:bQ}{v:Value}(h:gN B w b v)(hm:cg B t w w')(ht:88≠t):gN B w' b v:=by
 unfold gN at h ⊢
 cases b with
 | none=>exact h
 | some x=>
  obtain⟨F,h1,h2,h3⟩:=h;exact⟨F,h1,h2,hm.blk h3 ht⟩
theorem aaP(a b:L):aa a++aa b=aa (a++b):=by
 apply ByteArray.ext
 apply Array.ext'
 rw[←Array.toList_append]<;>simp[aa]
theorem cg.drew{B t:Nat}{w w1:World}(h:cg B t w w1):cg B t w w1.drew:=⟨h.os,h.tape,h.output,h.size,h.block⟩
theorem DB(x:Ew):(er x).length=5:=rfl
theorem Jg(x:Ew):∀u∈er x,u.oneCell'=true:=by
 intro u hu;simp only[er,List.mem_cons,List.not_mem_nil,or_false] at hu
 rcases hu with rfl|rfl|rfl|rfl|rfl<;>rfl
def qJ(B:Nat)(w:World)(xs:List Ew)(x:Ew)(e:Ending)(w':World):Prop :=
 ∃A c xs',e=.returned (.slice A xs'.length c)∧w'.ownsRow B 62 5 (.slice A xs'.length c) xs'.length (il xs')∧xs'.map (·.e)=dY (xs.map (·.e)) x.e∧(∀y∈xs',∃z∈xs++[x],y.A=z.A∧y.e.attrs=z.e.attrs)∧cg B 62 w w'
theorem qJ.snoc{B:Nat}{w w8:World}{xs:List Ew}{x:Ew}{g cap c:Nat}{A:Option Addr}{o o':Obj}(hB:B≤w.heap.size)(h:w.ownsRow B 62 5 (.slice A xs.length c) xs.length (il xs))(hown:w8.ownsRow B 62 5 (.slice (some ⟨g,0,none⟩) (xs.length+1) cap) (xs.length+1) (il xs++er x))
  (hgrow:((w.alloc o).alloc o').grownBy w8 (Value.slice A xs.length c).ownBlock) (hp:dY (xs.map (·.e)) x.e=xs.map (·.e)++[x.e]):qJ B w xs x (.returned (.slice (some ⟨g,0,none⟩) (xs.length+1) cap)) w8:=by
 refine⟨some ⟨g,0,none⟩,cap,xs++[x],by rw[List.length_append];rfl,by rw[List.length_append];unfold il at hown ⊢;rw[Jo];exact hown,by rw[hp,List.map_append];rfl,fun y hy=>⟨y,hy,rfl,rfl⟩,?_⟩;have b2:Below w.heap.size w ((w.alloc o).alloc o'):=((Below.refl _ _).alloc (Nat.le_refl _) o).alloc (by simp) o';exact (cg.b7 b2).trans (.grown hgrow fun k hk=>aI (eV h b2) k hk)
theorem qJ.aiW{B n:Nat}{w w8:World}{xs:List Ew}{x:Ew}{g cap c:Nat}{A:Option Addr}{o o':Obj}(hB:B≤w.heap.size)(h:w.ownsRow B 62 5 (.slice A n c) n (il xs))(hn:xs.length=n)(hown:w8.ownsRow B 62 5 (.slice (some ⟨g,0,none⟩) (n+1) cap) (n+1) (il xs++er x))
  (hgrow:((w.alloc o).alloc o').grownBy w8 (Value.slice A n c).ownBlock) (hp:dY (xs.map (·.e)) x.e=xs.map (·.e)++[x.e]):qJ B w xs x (.returned (.slice (some ⟨g,0,none⟩) (n+1) cap)) w8:=by
 subst hn;exact qJ.snoc hB h hown hgrow hp
theorem VM{l:List Ev}{x:Ev}(h:x.kind≠2):dY l x=l++[x]:=by unfold dY;rw[if_pos h]
theorem ag9{x:Ev}(h:x.kind=2):dY [] x=if x.text=[] then [] else [x]:=by unfold dY;rw[if_neg (by simpa using h)];rfl
theorem ahb{l:List Ev}{y x:Ev}(h:x.kind=2)(hy:y.kind=2):dY (l++[y]) x=l++[⟨2,y.name,y.attrs,y.text++x.text⟩]:=by unfold dY;rw[if_neg (by simpa using h)];simp[hy]
theorem ag7{l:List Ev}{y x:Ev}(h:x.kind=2)(hy:y.kind≠2):dY (l++[y]) x=if x.text=[] then l++[y] else l++[y]++[x]:=by unfold dY;rw[if_neg (by simpa using h)];simp[hy]

theorem Fu(B:Nat)(xs:List Ew)(x:Ew)(A:Option Addr)(c:Nat)(w:World)(h:w.ownsRow B 62 5 (.slice A xs.length c) xs.length (il xs))(hB:B≤w.heap.size)(hn:xs.length≤1000000000)
  (ht:∀y∈xs,y.e.text.length+x.e.text.length≤1000000000000000000) :
  Calls Tryz.prog 61 #[.slice A xs.length c,.agg #[.int .i8 (x.e.kind:Int),.string (aa x.e.name.ns),.string (aa x.e.name.loc),.slice x.A x.e.attrs.length x.c,.string (aa x.e.text)]] w (qJ B w xs x):=by
 have H:=hide h
 have HX:=hide (show ae ((w.alloc (.cells (er x).toArray 62)).alloc (.cells (er x).toArray 62)) (w.heap.size+1) 62 (er x).toArray by
  have:=ae.new (w.alloc (.cells (er x).toArray 62)) 62 (er x).toArray;rwa[World.size_alloc] at this)
 have xD:((aa x.e.text).toList==([]:L))=decide (x.e.text=[]):=kI (aa x.e.text) [];have td:(aa x.e.text).toList.isEmpty=decide (x.e.text=[]):=by rw[ByteArray.toList_eq,bg];cases x.e.text<;>simp
 by_cases hk:x.e.kind=2
 ·have cm:((x.e.kind:Int) != 2)=false:=by rw[hk];rfl
  rcases List.eq_nil_or_concat xs with hx|⟨ys,y,hx⟩
  ·have Hp:=hide (show dY (xs.map (·.e)) x.e=if x.e.text=[] then [] else [x.e] by rw[hx];exact ag9 hk);subst hx
   cases he:decide (x.e.text=[]) with
   | true=>
    rw[he] at xD td;have Hq:=hide (show dY (([]:List Ew).map (·.e)) x.e=[] by rw[Hp.out,if_pos (of_decide_eq_true he)]);clear hk h ht he;have qg:=hide hB;clear hn hB
    go_enter Tryz.func61,Tryz.ntmps61
    go_wp2;go_ret;exact⟨A,c,[],rfl,eV H.out (aA _ _),Hq.out.symm,(fun y hy=>by cases hy),cg.b7 (aA _ _)⟩
   | false=>
    rw[he] at xD td;have Hq:=hide (show dY (([]:List Ew).map (·.e)) x.e=([]:List Ew).map (·.e)++[x.e] by rw[Hp.out,if_neg (of_decide_eq_false he)];rfl);clear hk h ht he;have qg:=hide hB;clear hn hB
    go_enter Tryz.func61,Tryz.ntmps61
    go_wp2_with (at_builtin;go_loud (refine tZ ((w.alloc (.cells (er x).toArray 62)).alloc (.cells (er x).toArray 62)) rfl (.tmp 39) (.tmp 41) 50 rfl B 62 _ 5 80 Tryz.underlying50 Lk rfl (by omega) (.slice A 0 c) 0 [] rfl ((H.out.alloc _).alloc _) (er x) rfl (Jg x) (w.heap.size+1) HX.out rfl (by unfold maxLen;omega) (by omega) (by have:=qg.out;simp;omega) ?_);intro g cap w8 aN aF cY)
    go_ret;exact qJ.snoc qg.out H.out (by assumption) (by assumption) Hq.out
  rw[List.concat_eq_append] at hx;obtain⟨m,hm⟩:∃m,ys.length=m:=⟨_,rfl⟩;have hl:xs.length=m+1:=by rw[hx,←hm];simp
  obtain⟨g,cap,hv,aR,hlt⟩:=h.form (by omega);cases hv
  have jG:∀j,j<5→w.cell? ⟨g,m*5+j,none⟩=(er y)[j]?:=fun j hj=>by
   rw[h.cellAt (m*5+j) (by omega)];unfold il;rw[xm DB xs m (by omega) j hj];congr 2;simp only[hx];rw[List.getElem_append_right (by omega)];simp[hm]
  have c0:w.cell? ⟨g,m*5,none⟩=some (.int .i8 (y.e.kind:Int)):=jG 0 (by omega);have c4:w.cell? ⟨g,m*5+4,none⟩=some (.string (aa y.e.text)):=jG 4 (by omega);have f4:=h.frozenAt (m*5+4);have ht:=ht y (by rw[hx];simp);obtain⟨n,bC⟩:∃n,xs.length=n:=⟨_,rfl⟩;have mB:IntKind.i64.wrap ((n:Int)-1)=(m:Int):=by rw[IntWalk.i64_in _ (by omega)];omega
  have vH:m<n:=by omega
  rw[bC] at H ⊢;have HL:=hide bC;have HN:=hide bC;have fY:=hide hx;have Hm:=hide hm;have Hn:=hide (show n≤1000000000 by omega);have qg:=hide hB;clear h hn hB hl bC hx hm jG
  by_cases hy:y.e.kind=2
  ·have hy2:((y.e.kind:Int)==2)=true:=by rw[hy];rfl
   have Ht:=hide ht;have Hq:=hide (show dY (xs.map (·.e)) x.e=ys.map (·.e)++[⟨2,y.e.name,y.e.attrs,y.e.text++x.e.text⟩] by rw[fY.out,List.map_append,List.map_cons,List.map_nil,ahb hk hy]);have Hk:=hide hk;have Hy:=hide hy;clear hk hy ht xD td
   go_enter Tryz.func61,Tryz.ntmps61
   go_wp2;obtain⟨W,hW⟩:∃W,w.alloc (.cells #[.int .i8 (x.e.kind:Int),.string (aa x.e.name.ns),.string (aa x.e.name.loc),.slice x.A x.e.attrs.length x.c,.string (aa x.e.text)] 62)=W:=⟨_,rfl⟩;rw[hW];have vt:Below w.heap.size w W:=by rw[←hW];exact aA _ _
   have d4:W.cell? ⟨w.heap.size,4,none⟩=some (.string (aa x.e.text)):=by rw[←hW];exact (ae.new w 62 #[.int .i8 (x.e.kind:Int),.string (aa x.e.name.ns),.string (aa x.e.name.loc),.slice x.A x.e.attrs.length x.c,.string (aa x.e.text)]).cell 4
   replace c4:W.cell? ⟨g,m*5+4,none⟩=some (.string (aa y.e.text)):=(vt.cell (p:=⟨g,m*5+4,none⟩) hlt).trans c4;replace f4:W.frozen? ⟨g,m*5+4,none⟩=false:=(vt.frozen (p:=⟨g,m*5+4,none⟩) hlt).trans f4;have m1:¬9223372036854775807<(aa y.e.text).size+(aa x.e.text).size:=by rw[aW,aW];have:=Ht.out;omega
   have OW:=hide (eV H.out vt);have BW:=hide vt;clear vt hW
   go_region
   all_goals
    go_wp2;go_ret;refine⟨some ⟨g,0,none⟩,c,ys++[⟨⟨2,y.e.name,y.e.attrs,y.e.text++x.e.text⟩,y.A,y.c⟩],?_,?_,?_,?_,?_⟩
    ·rw[←HN.out,fY.out,List.length_append,List.length_append];rfl
    ·have h:=(OW.out.stored (m*5+4) (.string (aa y.e.text++aa x.e.text))).1
     have e1:(il xs).set (m*5+4) (.string (aa y.e.text++aa x.e.text))=il (ys++[⟨⟨2,y.e.name,y.e.attrs,y.e.text++x.e.text⟩,y.A,y.c⟩]):=by
      rw[fY.out];unfold il;rw[Jo,Jo,List.set_append_right _ _ (by rw[uU DB,Hm.out];omega),uU DB,Hm.out,Nat.add_sub_cancel_left,aaP];show _++_=_++_;unfold er;rw[Hy.out];rfl
     rw[e1] at h;have e2:(ys++[(⟨⟨2,y.e.name,y.e.attrs,y.e.text++x.e.text⟩,y.A,y.c⟩:Ew)]).length=n:=by rw[←HN.out,fY.out,List.length_append,List.length_append];rfl
     rw[e2];exact h
    ·rw[Hq.out,List.map_append];rfl
    ·intro z hz
     rcases List.mem_append.1 hz with hz|hz
     ·exact⟨z,by rw[fY.out];simp[hz],rfl,rfl⟩
     simp only[List.mem_singleton] at hz;subst hz;exact⟨y,by rw[fY.out];simp,rfl,rfl⟩
    exact ((cg.b7 BW.out).trans (cg.set (p:=⟨g,m*5+4,none⟩) ⟨aR,(aI OW.out g rfl).2⟩ _)).drew
  have hy2:((y.e.kind:Int)==2)=false:=by rw[beq_eq_false_iff_ne];omega
  have Hp:=hide (ag7 (l:=ys.map (·.e)) hk hy)
  cases he:decide (x.e.text=[]) with
  | true=>
   rw[he] at xD td;have Hq:=hide (show dY (xs.map (·.e)) x.e=xs.map (·.e) by rw[fY.out,List.map_append,List.map_cons,List.map_nil,Hp.out,if_pos (of_decide_eq_true he)]);clear hk ht he hy
   go_enter Tryz.func61,Tryz.ntmps61
   go_wp2;go_ret;exact⟨_,_,xs,by rw[HN.out];rfl,by rw[HN.out];exact eV H.out (aA _ _),Hq.out.symm,(fun z hz=>⟨z,List.mem_append_left _ hz,rfl,rfl⟩),cg.b7 (aA _ _)⟩
  | false=>
   rw[he] at xD td;have Hq:=hide (show dY (xs.map (·.e)) x.e=xs.map (·.e)++[x.e] by rw[fY.out,List.map_append,List.map_cons,List.map_nil,Hp.out,if_neg (of_decide_eq_false he)]);clear hk ht he hy
   go_enter Tryz.func61,Tryz.ntmps61
   go_wp2_with (at_builtin;go_loud (refine tZ ((w.alloc (.cells (er x).toArray 62)).alloc (.cells (er x).toArray 62)) rfl (.tmp 39) (.tmp 41) 50 rfl B 62 _ 5 80 Tryz.underlying50 Lk rfl (by omega) (.slice (some ⟨g,0,none⟩) n c) n (il xs) rfl ((H.out.alloc _).alloc _) (er x) rfl (Jg x) (w.heap.size+1) HX.out rfl (by unfold maxLen;have:=Hn.out;omega) (by have:=Hn.out;omega) (by have:=qg.out;simp;omega) ?_);intro g2 cap w8 aN aF cY)
   go_ret;exact qJ.aiW qg.out H.out HL.out (by assumption) (by assumption) Hq.out
 have cm:((x.e.kind:Int) != 2)=true:=by rw[bne_iff_ne];omega
 have Hp:=hide (VM (l:=xs.map (·.e)) hk);have Hn:=hide hn;have qg:=hide hB;clear hk h xD td ht hn hB
 go_enter Tryz.func61,Tryz.ntmps61
 go_wp2_with (at_builtin;go_loud (refine tZ ((w.alloc (.cells (er x).toArray 62)).alloc (.cells (er x).toArray 62)) rfl (.tmp 9) (.tmp 11) 50 rfl B 62 _ 5 80 Tryz.underlying50 Lk rfl (by omega) (.slice A xs.length c) xs.length (il xs) rfl ((H.out.alloc _).alloc _) (er x) rfl (Jg x) (w.heap.size+1) HX.out rfl (by unfold maxLen;have:=Hn.out;omega) (by have:=Hn.out;omega) (by have:=qg.out;simp;omega) ?_);intro g cap w8 aN aF cY)
 go_ret;exact qJ.snoc qg.out H.out (by assumption) (by assumption) Hp.out
end
section
open Go.RowKit Tk

end
section
open Go.RowKit Tk Sx

theorem abc(c:UInt8)(w:World):Calls Tryz.prog 94 #[.int .i64 (c.toNat:Nat)] w fun e w'=>e=.returned (.bool (sp c))∧w'=w:=by
 have key:∀d:UInt8,((c.toNat:Int)==(d.toNat:Int))=(c==d):=fun d=>by
  rw[Bool.eq_iff_iff,beq_iff_eq,beq_iff_eq];exact⟨fun h=>UInt8.toNat_inj.1 (by omega),fun h=>by rw[h]⟩
 have e1:((c.toNat:Int)==32)=(c==32):=key 32;have e2:((c.toNat:Int)==9)=(c==9):=key 9;have e3:((c.toNat:Int)==10)=(c==10):=key 10;have e4:((c.toNat:Int)==13)=(c==13):=key 13;unfold sp;clear key;generalize (c==32)=a32 at *
 generalize (c==9)=a9 at *
 generalize (c==10)=a10 at *
 generalize (c==13)=a13 at *

 cases a32 with
 | true=>
  go_enter Tryz.func94,Tryz.ntmps94
  go_wp2
  go_ret
  exact⟨aU (dw (by simp)),rfl⟩
 | false=>
  cases a9 with
  | true=>
   go_enter Tryz.func94,Tryz.ntmps94
   go_wp2
   go_ret
   exact⟨aU (dw (by simp)),rfl⟩
  | false=>
   cases a10 with
   | true=>
    go_enter Tryz.func94,Tryz.ntmps94
    go_wp2
    go_ret
    exact⟨aU (dw (by simp)),rfl⟩
   | false=>
    cases a13 with
    | true=>
     go_enter Tryz.func94,Tryz.ntmps94
     go_wp2
     go_ret
     exact⟨aU (dw (by simp)),rfl⟩
    | false=>
     go_enter Tryz.func94,Tryz.ntmps94
     go_wp2
     go_ret
     exact⟨aU (dw (by simp)),rfl⟩
theorem aaI(D:L)(w:World)(hD:D.length≤1000000000):Calls Tryz.prog 64 #[.string (aa D)] w fun e w'=>e=.returned (.bool (D.all sp))∧Below w.heap.size w w':=by
 have Hs:=hide (aW D);obtain⟨W,g,cap,nh,hb,hg,hat⟩:=Dk (aa D) w;rw[bg] at hat;have qy:=hide hat;have HB:=hide hb;clear hat hb;obtain⟨z,hz⟩:∃z,D.all sp=z:=⟨_,rfl⟩;have Hz:=hide (show (D.drop 0).all sp=z by rw[List.drop_zero,hz]);rw[hz];clear hz
 go_enter Tryz.func64,Tryz.ntmps64
 go_wp2;clear nh
 go_loopg [8] (aa D).size (fun gk v wr=>∃k:Nat,gk=(aa D).size-k∧k≤(aa D).size∧v=.int .i64 (k:Int)∧(D.drop k).all sp=z∧wr=W)
 case atStart=>exact⟨0,rfl,by omega,rfl,Hz.out,rfl⟩
 case round=>
  obtain⟨k,aq,hk,rfl,Bj,rfl⟩:=hrel;have Hg:=hide aq;have j5:=hide Bj;clear aq Bj Hz
  by_cases hlt:k<(aa D).size
  ·obtain⟨c,hc⟩:∃c,D[k]?=some c:=⟨_,List.getElem?_eq_getElem (by rw[←Hs.out];exact hlt)⟩;have hcell:=qy.out k c hc;have iQ:(0:Int)≤(k:Int):=by omega
   have hcw:IntKind.i64.wrap (c.toNat:Int)=(c.toNat:Int):=IntWalk.i64_in _ (by have:=c.toNat_lt;omega);have vP:IntKind.i64.wrap ((k:Int)+1)=(k:Int)+1:=IntWalk.i64_in _ (by have:=Hs.out;omega);have HS:=hide (abc c);have hst:z=(sp c&&(D.drop (k+1)).all sp):=by rw[←j5.out,xj hc,List.all_cons]
   clear hc j5
   cases hsp:sp c with
   | true=>
    rw[hsp] at HS hst;have Hn:=hide (show (D.drop (k+1)).all sp=z by rw[hst,Bool.true_and]);clear hst hsp
    go_wp2_with fail
    refine cq (HS.out _) ?_
    go_wp2
    go_roundg ((aa D).size-(k+1))
    case measure=>have:=Hg.out;omega
    case rel=>exact⟨k+1,rfl,by omega,by first|rfl|go_num,Hn.out,rfl⟩
   | false=>
    rw[hsp] at HS hst;have Hr:=hide (show false=z by rw[hst,Bool.false_and]);clear hst hsp
    go_wp2_with fail
    refine cq (HS.out _) ?_
    go_wp2;go_ret;exact⟨aU (dw Hr.out),HB.out⟩
  have Hr:=hide (show true=z by rw[←j5.out,List.drop_of_length_le (by rw[←Hs.out];omega)];rfl);clear j5;go_wp2;go_ret;exact⟨aU (dw Hr.out),HB.out⟩

end
section
open Go.RowKit Tk Sx

structure Ok(st:St)(n M:Nat):Prop where
 op:st.open_.length≤16
 sc:st.scope.length≤n
 ev:st.evs.length≤n
 tx:∀y∈st.evs,y.text.length≤M
 EU:∀x∈st.open_,x.scope≤st.scope.length
 WI:st.open_.Pairwise fun a b=>a.scope≤b.scope
theorem pj.none{B:Nat}:pj B none:=fun a ha=>by cases ha
theorem Typed.none{w:World}{t:Nat}:Typed w none t:=fun a ha=>by cases ha
theorem Li{B:Nat}{W:World}(e:Ev)(h:e.attrs=[])(c:Nat):(Ew.mk e none c).In B W:=⟨by rw[show (Ew.mk e none c).e.attrs=[] from h];exact Reads.none_,.none,.none⟩
theorem PI.events{B P:Nat}{w w1:World}{st:St}{b:bQ}{v:Pv}{x:Ew}{xs:List Ew}{A:Option Addr}{c:Nat}(h:PI B P w st b v)(hm:cg B 62 w w1)(ho:w1.ownsRow B 62 5 (.slice A xs.length c) xs.length (il xs))
  (hx:xs.map (·.e)=dY (v.xs.map (·.e)) x.e) (hi:∀y∈xs,∃z∈v.xs++[x],y.A=z.A∧y.e.attrs=z.e.attrs) (bF:x.In B w) :
  PI B P (w1.setCell ⟨P,2,none⟩ (.slice A xs.length c)) ⟨st.open_,st.scope,dY st.evs x.e,st.gL⟩ b ⟨v.Ao,v.co,v.As,v.cs,A,c,v.vb,xs⟩:=by
 have hb:=hm.blk h.blk (by decide);refine⟨hb.aG 2 _,h.bp,?_,?_,?_,?_,?_,?_⟩
 ·exact dX (p:=⟨P,2,none⟩) (hm.own h.o (by decide)) hb (by decide) _
 ·exact dX (p:=⟨P,2,none⟩) (hm.own h.s (by decide)) hb (by decide) _
 ·exact dX (p:=⟨P,2,none⟩) ho hb (by decide) _
 ·rw[hx,h.ev]
 ·intro y hy;obtain⟨z,hz,h1,h2⟩:=hi y hy
  have hz1:z.In B w1:=by
   rcases List.mem_append.1 hz with hz|hz
   ·exact (h.gX z hz).tR hm (by decide)
   simp only[List.mem_singleton] at hz;subst hz;exact bF.tR hm (by decide)
  have oN:y.In B w1:=hz1.aw h1 h2;exact oN.gv ((aH.refl B P w1).setCell (p:=⟨P,2,none⟩) (.inl rfl) _) (sP oN hb)
 have h1:=h.bad.tR hm (by decide);exact h1.gv ((aH.refl B P w1).setCell (p:=⟨P,2,none⟩) (.inl rfl) _) hb (by decide)
def qK(B P:Nat)(w:World)(r:Except (Nat×Nat) St)(e:Ending)(w':World):Prop :=
 e=.returned (.tuple #[])∧aH B P w w'∧match r with
  | .ok st=>∃v,PI B P w' st none v
  | .error x=>∃st v,PI B P w' st (some x) v
structure qL(B:Nat)(w:World)(b o:Nat)(t:Tok):Prop where
 lt:b<B
 c1:w.cell? ⟨b,o+1,none⟩=some (.string (aa t.name))
 c3:w.cell? ⟨b,o+3,none⟩=some (.bool t.empty)
 c4:w.cell? ⟨b,o+4,none⟩=some (.string (aa t.text))
 c5:w.cell? ⟨b,o+5,none⟩=some (.int .i64 (t.at_:Int))
theorem PI.c{B P:Nat}{w:World}{st:St}{b:bQ}{v:Pv}(hP:PI B P w st b v):w.cell? ⟨P,0,none⟩=some (.slice v.Ao st.open_.length v.co):=hP.blk.cell 0
theorem PI.c2{B P:Nat}{w:World}{st:St}{b:bQ}{v:Pv}(hP:PI B P w st b v):w.cell? ⟨P,2,none⟩=some (.slice v.Ae v.xs.length v.ce):=hP.blk.cell 2
theorem PI.f2{B P:Nat}{w:World}{st:St}{b:bQ}{v:Pv}(hP:PI B P w st b v):w.frozen? ⟨P,2,none⟩=false:=hP.blk.frozen 2
theorem PI.tx{B P n M:Nat}{w:World}{st:St}{b:bQ}{v:Pv}(hP:PI B P w st b v)(hk:Ok st n M):∀y∈v.xs,y.e.text.length≤M:=fun y hy=>hk.tx _ (by rw[←hP.ev];exact List.mem_map_of_mem hy)

theorem abj(B P:Nat)(w:World)(st:St)(v:Pv)(b o:Nat)(t:Tok)(h:PI B P w st none v)(hB:B≤w.heap.size)(hk:Ok st 1000000000 100000000000000000)(ht:qL B w b o t)(pS:t.text.length≤100000000) :
  Calls Tryz.prog 37 #[.pointer (some ⟨P,0,none⟩),.pointer (some ⟨b,o,none⟩)] w (qK B P w (Sx.data st t)):=by
 have c0:=h.c;have c2:=h.c2;have f2:=h.f2;have t4:=ht.c4;have t5:=ht.c5;have H:=hide h;have HB:=hide hB;obtain⟨n,hn⟩:∃n,st.open_.length=n:=⟨_,rfl⟩;rw[hn] at c0
 by_cases h0:st.open_=[]
 ·have oD:n=0:=by rw[←hn,h0];rfl
  have Hr:=hide (show Sx.data st t=.error (t.at_,50) by unfold Sx.data;rw[if_pos h0]);have HW:=hide (o8 B P w st none v t.at_ 50 h hB);subst oD;clear h hB hk ht pS hn h0
  go_enter Tryz.func37,Tryz.ntmps37
  go_wp2_with fail
  refine HW.out.mono ?_;rintro e w1 ⟨vb,rfl,h1,h2⟩;have H1:=hide h1;have H2:=hide h2;clear h1 h2;go_wp2;go_end0;rw[Hr.out];exact⟨rfl,H2.out,st,_,H1.out⟩
 have oD:decide ((n:Int)=0)=false:=by rw[decide_eq_false_iff_not];intro e;exact h0 (List.eq_nil_of_length_eq_zero (by omega))
 have rp:((n:Int)==0)=false:=by rw[beq_eq_false_iff_ne];intro e;exact h0 (List.eq_nil_of_length_eq_zero (by omega))
 have Hr:=hide (show Sx.data st t=.ok (Ft st t.text) by unfold Sx.data;rw[if_neg h0]);have HP:=hide (Fu B v.xs ⟨MD t.text,none,0⟩ v.Ae v.ce w.drew h.e hB (by rw[h.len];exact hk.ev) (fun y hy=>by have:=h.tx hk y hy;show _+t.text.length≤_;omega));have HK:=hide (show ae w.drew P 80 _ from h.blk);clear h hB hk ht pS hn h0
 go_enter Tryz.func37,Tryz.ntmps37
 go_wp2
 go_region_with (go_at_call 61;refine HP.out.mono ?_;rintro e w1 ⟨A,c,xs,rfl,ho,hx,hi,hm⟩;have q2:w1.cell? ⟨P,2,none⟩=some _:=(hm.blk HK.out (by decide)).cell 2;have g2:=(hm.blk HK.out (by decide)).frozen 2)
 all_goals
  go_end0;rw[Hr.out];exact⟨rfl,(((aH.refl B P w).drew).trans (hm.gv (by decide))).setCell (p:=⟨P,2,none⟩) (.inl rfl) _,_,(H.out.go (Below.refl _ _).drew).events hm ho hx hi (Li _ rfl _)⟩

theorem WB:∀(f k:Nat) (l out:L),dF f k l=.ok out→out.length≤4*l.length:=by
 intro f
 induction f with
 | zero=>intro k l out h;rw[dF] at h;cases h;simp
 | succ f ih=>
 intro k l out h
 cases l with
 | nil=>rw[dF] at h;cases h;simp
 | cons c r=>
  by_cases hc:c=38
  ·subst hc
   cases he:ends r with
   | none=>rw[WC he] at h;cases h
   | some n=>
    have hn:=Jd he
    cases hs:scalar (r.take n) with
    | none=>rw[Wz he hs] at h;cases h
    | some v=>
     rw[WD he hs] at h
     cases hy:dF f (k+n+2) (r.drop (n+1)) with
     | error a=>rw[hy] at h;cases h
     | ok o=>
      rw[hy] at h;simp only[ji,Except.ok.injEq] at h;subst h;have:=ih _ _ _ hy;have hp:=LY (v:Int);rw[List.length_drop] at this;rw[List.length_append,List.length_cons];omega
  rw[WA hc] at h
  cases hy:dF f (k+1) r with
  | error a=>rw[hy] at h;cases h
  | ok o=>
   rw[hy] at h;simp only[ji,Except.ok.injEq] at h;subst h;have:=ih _ _ _ hy;rw[List.length_append,List.length_cons,List.length_cons];simp;omega

theorem ajy(B P:Nat)(w:World)(st:St)(v:Pv)(b o:Nat)(t:Tok)(h:PI B P w st none v)(hB:B≤w.heap.size)(hk:Ok st 1000000000 100000000000000000)(ht:qL B w b o t)(pS:t.text.length≤100000) :
  Calls Tryz.prog 36 #[.pointer (some ⟨P,0,none⟩),.pointer (some ⟨b,o,none⟩)] w (qK B P w (Sx.text st t)):=by
 have t4:=ht.c4;have HS:=hide (Mz (aa t.text) w (by rw[aW];exact pS));rw[bg,aW] at HS;have ak:=hide (fun W=>aaI t.text W (by omega));have H:=hide h;have HB:=hide hB;have Ht:=hide ht;have Hk:=hide hk;have Zx:=hide pS;clear hk ht pS;obtain⟨y,hy⟩:∃y,dF t.text.length 0 t.text=y:=⟨_,rfl⟩;rw[hy] at HS;obtain⟨bl,aP⟩:∃bl,t.text.all sp=bl:=⟨_,rfl⟩;rw[aP] at ak;obtain⟨n,hn⟩:∃n,st.open_.length=n:=⟨_,rfl⟩;have HN:=hide hn
 by_cases h0:st.open_=[]
 ·have oD:n=0:=by rw[←hn,h0];rfl
  subst oD
  cases bl with
  | true=>
   have Hr:=hide (show Sx.text st t=.ok st by unfold Sx.text;rw[if_pos h0,if_pos aP]);clear h0 hn aP hy h hB
   cases y with
   | _=>
    unfold iW at HS
    go_enter Tryz.func36,Tryz.ntmps36
    go_wp2_with fail
    refine HS.out.mono ?_;rintro e w1 ⟨rfl,b1⟩;have H1:=hide (H.out.go b1);have c0:=H1.out.c;rw[HN.out] at c0;have t4':=(b1.cell (p:=⟨b,o+4,none⟩) (by have:=Ht.out.lt;have:=HB.out;show b<_;omega)).trans t4;have M1:=hide (aH.b7 (B:=B) (P:=P) b1);clear b1
    go_wp2_with fail
    refine (ak.out _).mono ?_;rintro e w2 ⟨rfl,b2⟩;have H2:=hide (H1.out.go b2);have M2:=hide (M1.out.go b2);clear b2;go_wp2;go_end0;rw[Hr.out];exact⟨rfl,M2.out,_,H2.out⟩
  | false=>
   have Hr:=hide (show Sx.text st t=.error (t.at_,50) by unfold Sx.text;rw[if_pos h0,if_neg (by rw[aP];simp)]);clear h0 hn aP hy h hB
   cases y with
   | _=>
    unfold iW at HS
    go_enter Tryz.func36,Tryz.ntmps36
    go_wp2_with fail
    refine HS.out.mono ?_;rintro e w1 ⟨rfl,b1⟩;have H1:=hide (H.out.go b1);have c0:=H1.out.c;rw[HN.out] at c0;have t4':=(b1.cell (p:=⟨b,o+4,none⟩) (by have:=Ht.out.lt;have:=HB.out;show b<_;omega)).trans t4;have M1:=hide (aH.b7 (B:=B) (P:=P) b1);clear b1
    go_wp2_with fail
    refine (ak.out _).mono ?_;rintro e w2 ⟨rfl,b2⟩;have H2:=hide (H1.out.go b2);have M2:=hide (M1.out.go b2);have MB:=((M2.out.below (C:=B) (Nat.le_refl _) H.out.bp HB.out).cell (p:=⟨b,o+5,none⟩) Ht.out.lt).trans Ht.out.c5;have HW:=hide (o8 B P w2 st none v t.at_ 50 H2.out (Nat.le_trans HB.out M2.out.size));clear b2
    go_wp2_with fail
    refine HW.out.mono ?_;rintro e w3 ⟨vb,rfl,h1,h2⟩;have H3:=hide h1;have M3:=hide (M2.out.trans h2);clear h1 h2;go_wp2;go_end0;rw[Hr.out];exact⟨rfl,M3.out,_,_,H3.out⟩
 have oD:0<n:=by rw[←hn];exact List.length_pos_iff.2 h0
 cases y with
 | ok s=>
  have Hr:=hide (show Sx.text st t=.ok (Ft st s) by unfold Sx.text;rw[if_neg h0,hy]);have Hs:=hide (show s.length≤400000 by have:=WB _ _ _ _ hy;have:=Zx.out;omega);clear h0 hn aP hy h hB;unfold iW at HS
  go_enter Tryz.func36,Tryz.ntmps36
  go_wp2_with fail
  refine HS.out.mono ?_;rintro e w1 ⟨rfl,b1⟩;have H1:=hide (H.out.go b1);have c0:=H1.out.c;have c2:=H1.out.c2;rw[HN.out] at c0;have M1:=hide (aH.b7 (B:=B) (P:=P) b1);have HP:=hide (Fu B v.xs ⟨MD s,none,0⟩ v.Ae v.ce w1 H1.out.e (Nat.le_trans HB.out b1.size) (by rw[H1.out.len];exact Hk.out.ev) (fun y hy=>by have:=H1.out.tx Hk.out y hy;have:=Hs.out;show _+s.length≤_;omega));clear b1
  go_wp2_with fail
  refine HP.out.mono ?_;rintro e w2 ⟨A,c,xs,rfl,ho,hx,hi,hm⟩;have q2:w2.cell? ⟨P,2,none⟩=some _:=(hm.blk H1.out.blk (by decide)).cell 2;have g2:=(hm.blk H1.out.blk (by decide)).frozen 2;have H2:=hide (H1.out.events hm ho hx hi (Li _ rfl _));have M2:=hide ((M1.out.trans (hm.gv (by decide))).setCell (p:=⟨P,2,none⟩) (.inl rfl) (.slice A xs.length c));clear ho hx hi hm;go_wp2;go_end0;rw[Hr.out];exact⟨rfl,M2.out,_,H2.out⟩
 | error a=>
  have Hr:=hide (show Sx.text st t=.error (t.at_,50) by unfold Sx.text;rw[if_neg h0,hy]);clear h0 hn aP hy h hB;unfold iW at HS
  go_enter Tryz.func36,Tryz.ntmps36
  go_wp2_with fail
  refine HS.out.mono ?_;rintro e w1 ⟨rfl,b1⟩;have H1:=hide (H.out.go b1);have c0:=H1.out.c;rw[HN.out] at c0;have MB:=(b1.cell (p:=⟨b,o+5,none⟩) (by have:=Ht.out.lt;have:=HB.out;show b<_;omega)).trans Ht.out.c5;have M1:=hide (aH.b7 (B:=B) (P:=P) b1);have HW:=hide (o8 B P w1 st none v t.at_ 50 H1.out (Nat.le_trans HB.out b1.size));clear b1
  go_wp2_with fail
  refine HW.out.mono ?_;rintro e w3 ⟨vb,rfl,h1,h2⟩;have H3:=hide h1;have M3:=hide (M1.out.trans h2);clear h1 h2;go_wp2;go_end0;rw[Hr.out];exact⟨rfl,M3.out,_,_,H3.out⟩
end
section
open Go.RowKit Tk Sx

section
variable {B P:Nat} {w:World} {st:St} {b:bQ} {v:Pv}
theorem PI.c1(hP:PI B P w st b v):w.cell? ⟨P,1,none⟩=some (.slice v.As st.scope.length v.cs):=hP.blk.cell 1
theorem PI.f0(hP:PI B P w st b v):w.frozen? ⟨P,0,none⟩=false:=hP.blk.frozen 0
theorem PI.f1(hP:PI B P w st b v):w.frozen? ⟨P,1,none⟩=false:=hP.blk.frozen 1
theorem PI.abe(h:PI B P w st b v){k:Nat}(hk:k≤st.open_.length):PI B P (w.setCell ⟨P,0,none⟩ (.slice v.Ao k v.co)) ⟨st.open_.take k,st.scope,st.evs,st.gL⟩ b v:=by
 have hl:(st.open_.take k).length=k:=by rw[List.length_take];omega
 refine⟨?_,h.bp,?_,dX (p:=⟨P,0,none⟩) h.s h.blk (by decide) _,dX (p:=⟨P,0,none⟩) h.e h.blk (by decide) _,h.ev,fun x hx=>(h.gX x hx).gv ((aH.refl B P w).setCell (p:=⟨P,0,none⟩) (.inl rfl) _) (sP (h.gX x hx) h.blk),
  h.bad.gv ((aH.refl B P w).setCell (p:=⟨P,0,none⟩) (.inl rfl) _) h.blk (by decide)⟩
 ·have:=h.blk.aG 0 (.slice v.Ao k v.co);unfold BI at this ⊢;dsimp only;rw[hl];exact this
 dsimp only;rw[hl];have:=dX (p:=⟨P,0,none⟩) (Vk h.o hk) h.blk (by decide) (.slice v.Ao k v.co);unfold els;rw[Jp (m:=4) (fun _=>rfl)];exact this
theorem PI.abf(h:PI B P w st b v){k:Nat}(hk:k≤st.scope.length):PI B P (w.setCell ⟨P,1,none⟩ (.slice v.As k v.cs)) ⟨st.open_,st.scope.take k,st.evs,st.gL⟩ b v:=by
 have hl:(st.scope.take k).length=k:=by rw[List.length_take];omega
 refine⟨?_,h.bp,dX (p:=⟨P,1,none⟩) h.o h.blk (by decide) _,?_,dX (p:=⟨P,1,none⟩) h.e h.blk (by decide) _,h.ev,fun x hx=>(h.gX x hx).gv ((aH.refl B P w).setCell (p:=⟨P,1,none⟩) (.inl rfl) _) (sP (h.gX x hx) h.blk),
  h.bad.gv ((aH.refl B P w).setCell (p:=⟨P,1,none⟩) (.inl rfl) _) h.blk (by decide)⟩
 ·have:=h.blk.aG 1 (.slice v.As k v.cs);unfold BI at this ⊢;dsimp only;rw[hl];exact this
 dsimp only;rw[hl];have:=dX (p:=⟨P,1,none⟩) (Vk h.s hk) h.blk (by decide) (.slice v.As k v.cs);unfold bj;rw[Jp (m:=2) (fun _=>rfl)];exact this
end
def Np(B P:Nat)(w:World)(st:St)(b:bQ)(e:Ending)(w':World):Prop:=e=.returned (.tuple #[])∧aH B P w w'∧∃v,PI B P w' (qQ st) b v
theorem QS{w:World}{B g c n m:Nat}{l:List El}{x:El}(h:w.ownsRow B 110 4 (.slice (some ⟨g,0,none⟩) n c) n (els l))(hn:l.length=n)(hx:l[m]?=some x):∀j,j<4→w.cell? ⟨g,m*4+j,none⟩=(oc x)[j]?:=fun j hj=>by
 obtain⟨h1,h2⟩:=List.getElem?_eq_some_iff.1 hx;rw[h.cellAt (m*4+j) (by omega)];unfold els;rw[xm (m:=4) (fun _=>rfl) l m h1 j hj,h2]

theorem Wd(B P:Nat)(w:World)(st:St)(bd:bQ)(v:Pv)(h:PI B P w st bd v)(hB:B≤w.heap.size)(hk:Ok st 1000000000 100000000000000000)(hne:st.open_≠[]) :
  Calls Tryz.prog 62 #[.pointer (some ⟨P,0,none⟩)] w (Np B P w st bd):=by
 obtain⟨x,hx⟩:∃x,st.open_.getLast?=some x:=by
  cases hl:st.open_.getLast? with
  | none=>exact absurd (List.getLast?_eq_none_iff.1 hl) hne
  | some x=>exact⟨x,rfl⟩
 obtain⟨m,hm⟩:∃m,st.open_.length=m+1:=⟨st.open_.length-1,by have:=List.length_pos_iff.2 hne;omega⟩;have iA:st.open_[m]?=some x:=by rw[List.getLast?_eq_getElem?,hm] at hx;simpa using hx
 have hsc:=hk.EU x (List.mem_of_getElem? iA)
 have Hr:=hide (show qQ st=⟨st.open_.take m,st.scope.take x.scope,dY st.evs ⟨1,x.name,[],[]⟩,st.gL⟩ by
  unfold qQ;rw[hx];dsimp only;rw[List.dropLast_eq_take,hm,Nat.add_sub_cancel])
 have H:=hide h;have HB:=hide hB;have ho:=h.o;rw[hm] at ho;obtain⟨g,cap,hv,aR,hlt⟩:=ho.form (by omega);have mZ:v.Ao=some ⟨g,0,none⟩:=by injection hv
 rw[mZ] at ho;have hce:=QS ho hm iA;have d0:w.cell? ⟨g,m*4,none⟩=some (.string (aa x.written)):=hce 0 (by omega);have d1:w.cell? ⟨g,m*4+1,none⟩=some (.string (aa x.name.ns)):=hce 1 (by omega);have d2:w.cell? ⟨g,m*4+2,none⟩=some (.string (aa x.name.loc)):=hce 2 (by omega);have d3:w.cell? ⟨g,m*4+3,none⟩=some (.int .i64 (x.scope:Int)):=hce 3 (by omega);have c0:=h.c;rw[hm,mZ] at c0;have pJ:=h.blk.lt;have iO:=yo ho;have hcs:=yo h.s;obtain⟨n,hn⟩:∃n,m+1=n:=⟨_,rfl⟩;rw[hn] at c0 iO;have mB:IntKind.i64.wrap ((n:Int)-1)=(m:Int):=by rw[IntWalk.i64_in _ (by have:=hk.op;omega)];omega
 have vH:m<n:=by omega
 have HN:=hide hn;have Hm:=hide hm;have Hk:=hide hk;have k8:=hide hsc;have ud:=hide mZ;clear h hB hk hne hx hm iA hsc ho hv mZ hce hn
 go_enter Tryz.func62,Tryz.ntmps62
 go_wp2;have k:=ae.new w 110 #[.string (aa x.written),.string (aa x.name.ns),.string (aa x.name.loc),.int .i64 (x.scope:Int)];have Ee:=aA w (.cells #[.string (aa x.written),.string (aa x.name.ns),.string (aa x.name.loc),.int .i64 (x.scope:Int)] 110);obtain⟨W,hW⟩:∃W,w.alloc (.cells #[.string (aa x.written),.string (aa x.name.ns),.string (aa x.name.loc),.int .i64 (x.scope:Int)] 110)=W:=⟨_,rfl⟩;obtain⟨E,hE⟩:∃E,w.heap.size=E:=⟨_,rfl⟩;rw[hW] at k Ee ⊢;rw[hE] at k pJ ⊢;have HW:=hide (H.out.go Ee);have K:=hide k;have c0':W.cell? ⟨P,0,none⟩=some (.slice (some ⟨g,0,none⟩) n v.co):=by rw[HW.out.c,ud.out,Hm.out,HN.out]
 have c1':=HW.out.c1;have f0':=HW.out.f0;have f1':=HW.out.f1;have e3:W.cell? ⟨E,3,none⟩=some (.int .i64 (x.scope:Int)):=k.cell 3;have hne:P≠E:=by omega
 have BA:=hide Ee;have HE:=hide hE;have jn:(0:Int)≤(m:Int)∧(m:Int)≤(v.co:Int):=by omega
 have aM:(0:Int)≤(x.scope:Int)∧(x.scope:Int)≤(v.cs:Int):=by have:=k8.out;omega
 clear k hW c0 d0 d1 d2 d3 hE
 go_region
 have FQ:=HW.out.abe (k:=m) (by rw[Hm.out];omega);rw[ud.out] at FQ;have ub:=(FQ.abf (k:=x.scope) k8.out).go (Below.refl _ _).drew;have C8:=(((aH.b7 BA.out:aH B P w W).setCell (p:=⟨P,0,none⟩) (.inl rfl) (.slice (some ⟨g,0,none⟩) m v.co)).setCell (p:=⟨P,1,none⟩) (.inl rfl) (.slice v.As x.scope v.cs)).drew;have K2:ae ((W.setCell ⟨P,0,none⟩ (.slice (some ⟨g,0,none⟩) m v.co)).setCell ⟨P,1,none⟩ (.slice v.As x.scope v.cs)).drew E 110 _:=(K.out.far (p:=⟨P,0,none⟩) hne.symm _).far (p:=⟨P,1,none⟩) hne.symm _;obtain⟨W2,qW⟩:∃W2,((W.setCell ⟨P,0,none⟩ (.slice (some ⟨g,0,none⟩) m v.co)).setCell ⟨P,1,none⟩ (.slice v.As x.scope v.cs)).drew=W2:=⟨_,rfl⟩;rw[qW] at ub C8 K2 ⊢;have H2:=hide ub;have M2:=hide C8;have c2:=ub.c2;have x1:W2.cell? ⟨E,1,none⟩=some (.string (aa x.name.ns)):=K2.cell 1;have x2:W2.cell? ⟨E,2,none⟩=some (.string (aa x.name.loc)):=K2.cell 2;have HP:=hide (Fu B v.xs ⟨⟨1,x.name,[],[]⟩,none,0⟩ v.Ae v.ce W2.drew ub.e (Nat.le_trans HB.out C8.size) (by rw[ub.len];exact Hk.out.ev) (fun y hy=>by have:=HW.out.tx Hk.out y hy;show _+0≤_;omega));have HK:=hide (show ae W2.drew P 80 _ from ub.blk);clear FQ ub C8 K2 qW Ee c0' c1' f0' f1' e3 jn aM mB vH iO hcs hlt;go_wp2
 go_region_with (go_at_call 61;refine HP.out.mono ?_;rintro e w1 ⟨A,c,xs,rfl,ho,hx,hi,hm⟩;have q2:w1.cell? ⟨P,2,none⟩=some _:=(hm.blk HK.out (by decide)).cell 2;have g2:=(hm.blk HK.out (by decide)).frozen 2)
 all_goals
  go_end0;unfold Np;rw[Hr.out];exact⟨rfl,((M2.out.drew).trans (hm.gv (by decide))).setCell (p:=⟨P,2,none⟩) (.inl rfl) _,_,(H2.out.go (Below.refl _ _).drew).events hm ho hx hi (Li _ rfl _)⟩
theorem afa{st:St}{x:El}{m:Nat}(hx:st.open_.getLast?=some x)(hm:st.open_.length=m+1):st.open_[m]?=some x:=by rw[List.getLast?_eq_getElem?,hm] at hx;simpa using hx

theorem aiL(B P:Nat)(w:World)(st:St)(v:Pv)(b o:Nat)(t:Tok)(h:PI B P w st none v)(hB:B≤w.heap.size)(hk:Ok st 1000000000 100000000000000000)(ht:qL B w b o t) :
  Calls Tryz.prog 35 #[.pointer (some ⟨P,0,none⟩),.pointer (some ⟨b,o,none⟩)] w (qK B P w (Sx.end_ st t)):=by
 have t1:=ht.c1;have t5:=ht.c5;have H:=hide h;have HB:=hide hB;have Hk:=hide hk;have c0:=h.c
 cases hx:st.open_.getLast? with
 | none=>
  have he:=List.getLast?_eq_none_iff.1 hx;have Hr:=hide (show Sx.end_ st t=.error (t.at_,50) by unfold Sx.end_;rw[hx]);rw[he] at c0;have HW:=hide (fun k=>o8 B P (w.drewN k) st none v t.at_ 50 (h.go (below_drewN (Below.refl _ _) k)) hB);have vE:decide ((-1:Int)<0)=true:=by decide
  clear h hB hk ht hx he
  go_enter Tryz.func35,Tryz.ntmps35
  go_wp2
  go_quiet (fail)
  go_wp2_with fail
  refine (HW.out _).mono ?_;rintro e w1 ⟨vb,rfl,h1,h2⟩;have H1:=hide h1;have M1:=hide ((aH.b7 (below_drewN (Below.refl _ _) _)).trans h2);clear h1 h2;go_wp2;go_end0;rw[Hr.out];exact⟨rfl,M1.out,_,_,H1.out⟩
 | some x=>
  have hne:st.open_≠[]:=fun e=>by rw[e] at hx;cases hx
  obtain⟨m,hm⟩:∃m,st.open_.length=m+1:=⟨st.open_.length-1,by have:=List.length_pos_iff.2 hne;omega⟩;have iA:=afa hx hm;have ho:=h.o;rw[hm] at ho;obtain⟨g,cap,hv,aR,hlt⟩:=ho.form (by omega);have mZ:v.Ao=some ⟨g,0,none⟩:=by injection hv
  rw[mZ] at ho;have hce:=QS ho hm iA;have d0:w.cell? ⟨g,m*4,none⟩=some (.string (aa x.written)):=hce 0 (by omega);rw[hm,mZ] at c0;obtain⟨n,hn⟩:∃n,m+1=n:=⟨_,rfl⟩;rw[hn] at c0;have mB:IntKind.i64.wrap ((n:Int)-1)=(m:Int):=by rw[IntWalk.i64_in _ (by have:=hk.op;omega)];omega
  have vH:m<n:=by omega
  have vE:decide ((m:Int)<0)=false:=by rw[decide_eq_false_iff_not];omega
  have hq:((aa x.written).toList != (aa t.name).toList) = !decide (x.written=t.name):=by rw[bne,Dg]
  have oG:=Dg x.written t.name
  by_cases he:x.written=t.name
  ·have Hr:=hide (show Sx.end_ st t=.ok (qQ st) by unfold Sx.end_;rw[hx];exact if_pos he);rw[decide_eq_true he] at hq oG;have HC:=hide (fun k=>Wd B P (w.drewN k) st none v (h.go (below_drewN (Below.refl _ _) k)) hB hk hne);clear h hB hk ht hx he hne hm iA ho hv mZ hce hn
   go_enter Tryz.func35,Tryz.ntmps35
   go_wp2
   go_quiet (fail)
   go_wp2_with fail
   refine (HC.out _).mono ?_;rintro e w1 ⟨rfl,h2,v2,h1⟩;have H1:=hide h1;have M1:=hide ((aH.b7 (below_drewN (Below.refl _ _) _)).trans h2);clear h1 h2;go_wp2;go_end0;rw[Hr.out];exact⟨rfl,M1.out,_,H1.out⟩
  have Hr:=hide (show Sx.end_ st t=.error (t.at_,50) by unfold Sx.end_;rw[hx];exact if_neg he);rw[decide_eq_false he] at hq oG;have HW:=hide (fun k=>o8 B P (w.drewN k) st none v t.at_ 50 (h.go (below_drewN (Below.refl _ _) k)) hB);clear h hB hk ht hx he hne hm iA ho hv mZ hce hn
  go_enter Tryz.func35,Tryz.ntmps35
  go_wp2
  go_quiet (fail)
  go_wp2_with fail
  refine (HW.out _).mono ?_;rintro e w1 ⟨vb,rfl,h1,h2⟩;have H1:=hide h1;have M1:=hide ((aH.b7 (below_drewN (Below.refl _ _) _)).trans h2);clear h1 h2;go_wp2;go_end0;rw[Hr.out];exact⟨rfl,M1.out,_,_,H1.out⟩
end
end Go.Proofs.YtifiiojchlaghaaGreatDoor
