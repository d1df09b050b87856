/- Tokens in plain data: a token's word; a row of tokens; no program in sight. And more. -/
import Derived.Test.YtifiiojchlaghaaGreatDoorOk06
import Derived.Test.YtifiiojchlaghaaGreatDoorOk09
import Derived.Test.YtifiiojchlaghaaGreatDoorOk17
import Derived.Test.YtifiiojchlaghaaGreatDoorOk29
import Derived.Test.YtifiiojchlaghaaGreatDoorOk31
set_option linter.unusedSimpArgs false
set_option linter.unusedVariables false
namespace Go.Proofs.YtifiiojchlaghaaGreatDoor
section
namespace Tk

theorem drop_len{p r:L}{n:Nat}(h:p.length=n):(p++r).drop n=r:=by rw[←h,List.drop_left]
theorem toks_succ(k at_:Nat)(l:L):toks (k+1) at_ l=if l.isEmpty then [] else match Tk.one at_ l with
  | none=>[]
  | some t=>t :: toks k t.end_ (l.drop (t.end_-at_)):=rfl
theorem till_word{p l:L}{n:Nat}(h:till p l=some n):∃x rest,l=x++(p++rest)∧n=x.length∧till p (x++p)=some x.length:=by
 have h0:=till_len h;have hi:=h;rw[till_iff] at hi;obtain⟨h1,h2,h3⟩:=index_first' hi;obtain⟨rest,hr⟩:=pfx_iff.1 h1;have hl:(l.take n).length=n:=by rw[List.length_take];omega
 have e:l=l.take n++(p++rest):=by rw[←hr,List.take_append_drop]
 refine⟨l.take n,rest,e,hl.symm,?_⟩;rw[hl];have h4:till p (l.take n++p++rest)=some n:=by rw[List.append_assoc,←e];exact h
 have:=till_app (r':=[]) h4 (by rw[List.length_append,hl];exact Nat.le_refl _);rwa[List.append_nil] at this
theorem till_of{p x:L}(h:till p (x++p)=some x.length)(rest:L):till p (x++(p++rest))=some x.length:=by
 have:=till_app (a:=x++p) (r:=[]) (r':=rest) (by rw[List.append_nil];exact h) (by rw[List.length_append];exact Nat.le_refl _);rwa[List.append_assoc] at this
theorem start_eq(at_:Nat)(l:L):Tk.start at_ (60 :: l)=if take l=0 then none else (attrs (l.length+1) (at_+1+take l) (l.drop (take l))).map fun x=>⟨0,l.take (take l),x.1,x.2.1,[],at_,x.2.2⟩:=by
 have e:(60 :: l).drop (1+take l)=l.drop (take l):=by rw[Nat.add_comm,List.drop_succ_cons]
 rw[←e];rfl
theorem pfx_one{a:UInt8}{l:L}(h:([a]:L).isPrefixOf l=true):∃r,l=a :: r:=pfx_iff.1 h
theorem pfx_two{a b:UInt8}{l:L}(h:([a,b]:L).isPrefixOf l=true):∃r,l=a :: b :: r:=pfx_iff.1 h
def InstrW(nm y:L):Prop:=Name nm∧nm≠[]∧xml nm=false∧(y=[]∨∃c t,y=c :: t∧sp c=true)∧till [63,62] (y++[63,62])=some y.length
theorem instr_word{l:L}{n:Nat}(h:instr l=some n):∃nm y rest,l=nm++(y++([63,62]++rest))∧n=nm.length+y.length+2∧InstrW nm y:=by
 obtain⟨t1,t2,-⟩:=take_spec l;unfold instr at h
 split at h
 ·cases h
 rename_i h0
 have hx:xml (l.take (take l))=false:=by
  cases hx:xml (l.take (take l)) with
  | false=>rfl
  | true=>exact absurd (.inr hx) h0
 have hl:(l.take (take l)).length=take l:=by rw[List.length_take];omega
 have h1:take l≠0:=fun e=>h0 (.inl e);have hne:l.take (take l)≠[]:=fun e=>by rw[e] at hl;exact h1 hl.symm
 split at h
 ·rename_i hp
  obtain⟨rest,hr⟩:=pfx_iff.1 hp;cases h;refine⟨l.take (take l),[],rest,?_,by rw[hl];rfl,t2,hne,hx,.inl rfl,by decide⟩;rw[List.nil_append,←hr,List.take_append_drop]
 cases ht:till [63,62] (l.drop (take l)) with
 | none=>rw[ht] at h;cases h
 | some k=>
  rw[ht] at h;simp only[Option.bind_some] at h
  split at h
  ·rename_i hnp hs
   obtain⟨y,rest,hr,rfl,hy⟩:=till_word ht;cases h;refine⟨l.take (take l),y,rest,?_,by rw[hl],t2,hne,hx,?_,hy⟩
   ·rw[←hr,List.take_append_drop]
   rw[hr] at hs hnp
   cases y with
   | nil=>exact .inl rfl
   | cons c t=>exact .inr ⟨c,t,rfl,by simpa using hs⟩
  cases h
theorem instr_of{nm y:L}(h:InstrW nm y)(rest:L):instr (nm++(y++([63,62]++rest)))=some (nm.length+y.length+2):=by
 obtain⟨h1,h2,h3,h4,h5⟩:=h;have hlen:0<nm.length:=List.length_pos_iff.2 h2
 have htk:take (nm++(y++([63,62]++rest)))=nm.length:=by
  rcases h4 with rfl|⟨c,t,rfl,hc⟩
  ·exact take_word h1 h2 stops63
  exact take_word h1 h2 (stops_sp hc)
 unfold instr;rw[htk,List.take_left,List.drop_left,h3,if_neg (by simp;exact h2)]
 rcases h4 with rfl|⟨c,t,rfl,hc⟩
 ·rw[List.nil_append,if_pos (by simp)];simp
 rw[if_neg (by
  simp;rintro rfl
  cases hc),till_of h5]
 simp[hc]
def NotDecl(w:L):Prop:=∀rest,¬(sXml.isPrefixOf (w++rest)=true∧(((w++rest).drop 5).head?.map sp).getD false=true)
inductive TokW:Nat→L→Tok→Prop
 | start (at_:Nat) (nm wa:L) (as_:List At) (e:Bool):Name nm→nm≠[]→AttrsW (at_+1+nm.length) wa as_ e→TokW at_ (60 :: (nm++wa)) ⟨0,nm,as_,e,[],at_,at_+(60 :: (nm++wa)).length⟩
 | end_ (at_:Nat) (nm b:L):Name nm→nm≠[]→Sps b→TokW at_ (60 :: 47 :: (nm++(b++[62]))) ⟨1,nm,[],false,[],at_,at_+(60 :: 47 :: (nm++(b++[62]))).length⟩
 | text (at_:Nat) (tx:L):tx≠[]→(60:UInt8)∉tx→Lib.index tx [93,93,62]<0→TokW at_ tx ⟨2,[],[],false,tx,at_,at_+tx.length⟩
 | data (at_:Nat) (tx:L):till [93,93,62] (tx++[93,93,62])=some tx.length→TokW at_ (sData++(tx++[93,93,62])) ⟨3,[],[],false,tx,at_,at_+(sData++(tx++[93,93,62])).length⟩
 | comment (at_:Nat) (c:L):till [45,45] (c++[45,45])=some c.length→TokW at_ (sComment++(c++[45,45,62])) ⟨4,[],[],false,[],at_,at_+(sComment++(c++[45,45,62])).length⟩
 | decl (d:L):DeclW d→TokW 0 (sXml++d) ⟨4,[],[],false,[],0,0+(sXml++d).length⟩
 | instr (at_:Nat) (nm y:L):InstrW nm y→(at_=0→NotDecl (60 :: 63 :: (nm++(y++[63,62]))))→TokW at_ (60 :: 63 :: (nm++(y++[63,62]))) ⟨4,[],[],false,[],at_,at_+(60 :: 63 :: (nm++(y++[63,62]))).length⟩
theorem TokW.end_eq{at_:Nat}{w:L}{t:Tok}(h:TokW at_ w t):t.end_=at_+w.length:=by cases h<;>rfl
theorem TokW.ne{at_:Nat}{w:L}{t:Tok}(h:TokW at_ w t):w≠[]:=by
 cases h with
 | text _ _ h _ _=>exact h
 | _=>intro e;cases e
def Lt(r:L):Prop:=r=[]∨∃s,r=60 :: s
theorem notDecl_of{w r:L}(h6:6≤w.length∨(∀c t,w=t++[c]→c∉sXml)∧0<w.length)(h:¬(sXml.isPrefixOf (w++r)=true∧(((w++r).drop 5).head?.map sp).getD false=true)):NotDecl w:=by
 intro rest hh;have e5:sXml.length=5:=rfl
 by_cases h6':6≤w.length
 ·refine h ⟨?_,?_⟩
  ·rw[pfx_app (by omega)];rw[pfx_app (by omega)] at hh;exact hh.1
  have h2:=hh.2
  have hne:(w.drop 5).head?≠none:=by
   rw[List.head?_drop,List.getElem?_eq_getElem (by omega)];simp
  rw[List.drop_append_of_le_length (by omega),List.head?_append] at h2 ⊢
  cases hw:(w.drop 5).head? with
  | none=>exact absurd hw hne
  | some c=>rw[hw] at h2;exact h2
 rcases h6 with h6|⟨h6,h0⟩
 ·exact h6' h6
 obtain⟨s,hs⟩:=pfx_iff.1 hh.1;obtain⟨t,c,htc⟩:∃t c,w=t++[c]:=⟨w.dropLast,w.getLast (by intro e;subst e;simp at h0),(List.dropLast_concat_getLast _).symm⟩
 apply h6 c t htc
 have hl:t.length<5:=by have:=congrArg List.length htc;simp at this;omega
 have e1:(sXml++s)[t.length]?=some c:=by rw[←hs,htc];simp
 rw[List.getElem?_append_left (by omega)] at e1;exact List.mem_of_getElem? e1
theorem piece_word{at_:Nat}{l:L}{t:Tok}(hl:l≠[])(h:Tk.piece at_ l=some t):∃w rest,l=w++rest∧TokW at_ w t∧(t.kind=2→Lt rest):=by
 unfold Tk.piece at h
 split at h
 ·rename_i hp
  obtain⟨l,rfl⟩:=pfx_two hp;unfold Tk.end_ at h;simp only[List.drop_succ_cons,List.drop_zero] at h;obtain⟨t1,t2,-⟩:=take_spec l
  split at h
  ·cases h
  rename_i h0
  obtain⟨b,r,hr,hb,hn,-⟩:=nsp_word (l.drop (take l));rw[hn,hr,List.drop_left] at h
  split at h
  ·rename_i hp
   obtain⟨r,rfl⟩:=pfx_iff.1 hp;have hlen:(l.take (take l)).length=take l:=by rw[List.length_take];omega
   cases h
   have ew:60 :: 47 :: (l.take (take l)++(b++[62]))++r=60 :: 47 :: l:=by
    simp only[List.cons_append,List.append_assoc,List.nil_append];rw[show b++62 :: r=l.drop (take l) by rw[hr];simp,List.take_append_drop]
   refine⟨60 :: 47 :: (l.take (take l)++(b++[62])),r,ew.symm,?_,fun e=>by cases e⟩;have:=TokW.end_ at_ (l.take (take l)) b t2 (fun e=>by rw[e] at hlen;exact h0 hlen.symm) hb;have e2:at_+(60 :: 47 :: (l.take (take l)++(b++[62]))).length=at_+2+take l+b.length+1:=by simp only[List.length_cons,List.length_append,hlen,List.length_nil];omega
   rw[e2] at this;exact this
  cases h
 split at h
 ·rename_i hp1 hp2
  unfold Tk.skip at h
  split at h
  ·rename_i hp
   obtain⟨l,rfl⟩:=pfx_iff.1 hp;rw[show List.drop 4 (sComment++l)=l from drop_len (by rfl)] at h;unfold Tk.comment at h
   cases ht:till [45,45] l with
   | none=>rw[ht] at h;cases h
   | some k=>
    rw[ht] at h;simp only[Option.bind_some] at h;obtain⟨c,rest,rfl,rfl,hc⟩:=till_word ht;rw[show List.drop (c.length+2) (c++([45,45]++rest))=rest by rw[←List.append_assoc];exact drop_len (by simp)] at h
    split at h
    ·rename_i hp
     obtain⟨r,rfl⟩:=pfx_iff.1 hp;cases h;refine⟨sComment++(c++[45,45,62]),r,by simp,?_,fun e=>by cases e⟩;have:=TokW.comment at_ c hc;have e2:at_+(sComment++(c++[45,45,62])).length=at_+4+(c.length+3):=by simp only[List.length_append,List.length_cons,List.length_nil,sComment];omega
     rw[e2] at this;exact this
    cases h
  split at h
  ·rename_i hp
   obtain⟨l,rfl⟩:=pfx_iff.1 hp;rw[show List.drop 9 (sData++l)=l from drop_len (by rfl)] at h
   cases ht:till [93,93,62] l with
   | none=>rw[ht] at h;cases h
   | some k=>
    rw[ht] at h;obtain⟨c,rest,rfl,rfl,hc⟩:=till_word ht;cases h;refine⟨sData++(c++[93,93,62]),rest,by simp,?_,fun e=>by cases e⟩;have:=TokW.data at_ c hc;have e2:at_+(sData++(c++[93,93,62])).length=at_+9+c.length+3:=by simp only[List.length_append,List.length_cons,List.length_nil,sData];omega
    rw[e2] at this;show TokW at_ _ ⟨3,[],[],false,(c++([93,93,62]++rest)).take c.length,at_,at_+9+c.length+3⟩;rw[List.take_left];exact this
  split at h
  ·rename_i hp
   obtain⟨rfl,hp,hs⟩:=hp;obtain⟨l,rfl⟩:=pfx_iff.1 hp;rw[show List.drop 5 (sXml++l)=l from drop_len (by rfl)] at h hs
   cases hd:Tk.decl l with
   | none=>rw[hd] at h;cases h
   | some n=>
    rw[hd] at h;obtain⟨w,rest,rfl,rfl,hw⟩:=decl_word hd;cases h;refine⟨sXml++w,rest,by simp,?_,fun e=>by cases e⟩;have:=TokW.decl w hw;have e2:0+(sXml++w).length=0+5+w.length:=by simp only[List.length_append,List.length_cons,List.length_nil,sXml];omega
    rw[e2] at this;exact this
  split at h
  ·rename_i hnd hp
   obtain⟨l,rfl⟩:=pfx_iff.1 hp;rw[show List.drop 2 (([60,63]:L)++l)=l from rfl] at h
   cases hi:Tk.instr l with
   | none=>rw[hi] at h;cases h
   | some n=>
    rw[hi] at h;obtain⟨nm,y,rest,rfl,rfl,hw⟩:=instr_word hi;cases h;refine⟨60 :: 63 :: (nm++(y++[63,62])),rest,by simp,?_,fun e=>by cases e⟩
    have:=TokW.instr at_ nm y hw fun h0=>notDecl_of (r:=rest) (.inr ⟨fun c t e=>by
     have e2:60 :: 63 :: (nm++(y++[63]))++[62]=t++[c]:=by rw[←e];simp
     have:=List.append_inj_right' e2 rfl;cases this
     decide,by simp⟩) (fun hh=>hnd ⟨h0,by
      have e:60 :: 63 :: (nm++(y++[63,62]))++rest=[60,63]++(nm++(y++([63,62]++rest))):=by simp
      rw[e] at hh;exact hh⟩)
    have e2:at_+(60 :: 63 :: (nm++(y++[63,62]))).length=at_+2+(nm.length+y.length+2):=by simp only[List.length_append,List.length_cons,List.length_nil];omega
    rw[e2] at this;exact this
  cases h
 split at h
 ·rename_i hp
  obtain⟨l,rfl⟩:=pfx_one hp;rw[start_eq] at h;obtain⟨t1,t2,-⟩:=take_spec l
  by_cases h0:take l=0
  ·rw[if_pos h0] at h;cases h
  rw[if_neg h0] at h
  cases ha:attrs (l.length+1) (at_+1+take l) (l.drop (take l)) with
  | none=>rw[ha] at h;cases h
  | some y=>
   obtain⟨as_,e,off⟩:=y;rw[ha] at h;obtain⟨w,rest,hr,rfl,hw⟩:=attrs_word _ _ _ _ _ _ ha;have hlen:(l.take (take l)).length=take l:=by rw[List.length_take];omega
   cases h;refine⟨60 :: (l.take (take l)++w),rest,?_,?_,fun e=>by cases e⟩
   ·simp only[List.cons_append,List.append_assoc];rw[←hr,List.take_append_drop]
   have:=TokW.start at_ (l.take (take l)) w as_ e t2 (fun e=>by rw[e] at hlen;exact h0 hlen.symm) (by rw[hlen];exact hw);have e2:at_+(60 :: (l.take (take l)++w)).length=at_+1+take l+w.length:=by simp only[List.length_append,List.length_cons,hlen];omega
   rw[e2] at this;exact this
 rename_i hp
 unfold Tk.text at h;simp only at h
 split at h
 ·rename_i hx
  cases h
  cases ht:till [60] l with
  | none=>
   rw[ht] at hx;simp only[Option.getD_none,List.take_length] at hx ⊢;exact⟨l,[],(List.append_nil l).symm,.text at_ l hl (till_one_none ht) hx,fun _=>.inl rfl⟩
  | some n=>
   rw[ht] at hx;obtain⟨x,rest,rfl,hn,rfl⟩:=till_one ht;simp only[Option.getD_some,List.take_left] at hx ⊢;refine⟨x,60 :: rest,rfl,.text at_ x ?_ hn hx,fun _=>.inr ⟨rest,rfl⟩⟩;rintro rfl;simp at hp
 cases h
theorem piece_of{at_:Nat}{w:L}{t:Tok}(h:TokW at_ w t)(rest:L)(hr:t.kind=2→Lt rest):Tk.piece at_ (w++rest)=some t:=by
 cases h with
 | start _ nm wa as_ e hn h0 ha=>
  obtain⟨c,u,hc⟩:∃c u,nm=c :: u:=by cases nm with
   | nil=>exact absurd rfl h0
   | cons c t=>exact⟨c,t,rfl⟩
  have n47:c≠47:=name_not hn hc (by decide) (by decide);have n33:c≠33:=name_not hn hc (by decide) (by decide);have n63:c≠63:=name_not hn hc (by decide) (by decide);unfold Tk.piece;rw[if_neg (by rw[hc];simp;exact fun h=>absurd h.symm n47),if_neg (by rw[hc];simp;exact⟨fun h=>absurd h.symm n33,fun h=>absurd h.symm n63⟩),if_pos (by simp)];rw[List.cons_append,start_eq];obtain⟨d,u2,hd,hst⟩:=attrs_front ha rest;have htk:take (nm++(wa++rest))=nm.length:=by rw[hd];exact take_word hn h0 hst
  rw[List.append_assoc];rw[htk,if_neg (by intro h;exact h0 (List.eq_nil_of_length_eq_zero h)),List.drop_left,List.take_left,attrs_of ha _ _ (by simp;omega)];simp only[Option.map_some,List.length_cons,List.length_append];congr 2;omega
 | end_ _ nm b hn h0 hb=>
  have e:60 :: 47 :: (nm++(b++[62]))++rest=60 :: 47 :: (nm++(b++62 :: rest)):=by simp
  rw[e];unfold Tk.piece;rw[if_pos (by simp)];unfold Tk.end_;obtain⟨d,u,hd,hst⟩:=sps_front (r:=rest) hb stops62;have htk:take (nm++(b++62 :: rest))=nm.length:=by rw[hd];exact take_word hn h0 hst
  simp only[List.drop_succ_cons,List.drop_zero];rw[htk,if_neg (by intro h;exact h0 (List.eq_nil_of_length_eq_zero h)),List.drop_left,List.take_left,nsp_of hb (fun c t h=>by rw[←head_eq h];rfl),List.drop_left,if_pos (by simp)];simp only[List.length_cons,List.length_append,List.length_nil];congr 2;omega
 | text _ _ h0 h60 hx=>
  have hh:∀c u,w++rest=c :: u→c≠60:=by
   intro c u hc
   cases w with
   | nil=>exact absurd rfl h0
   | cons d w=>
    rw[List.cons_append] at hc;rw[←head_eq hc];rintro rfl;exact h60 (List.mem_cons_self ..)
  have hp:∀p,(60 :: p:L).isPrefixOf (w++rest)=false:=by
   intro p
   cases hc:w++rest with
   | nil=>rfl
   | cons c u=>
    have:=hh c u hc;rw[Bool.eq_false_iff];intro h;obtain⟨r,h⟩:=List.isPrefixOf_iff_prefix.1 h;exact this (List.cons.inj h).1.symm
  unfold Tk.piece;rw[hp,hp,hp,hp];simp only[Bool.or_self,Bool.false_eq_true,if_false];unfold Tk.text
  rcases hr rfl with rfl|⟨s,rfl⟩
  ·rw[List.append_nil]
   cases ht:till [60] w with
   | none=>simp only[Option.getD_none,List.take_length];rw[if_pos hx]
   | some n=>
    obtain⟨x,r2,h1,h2,h3⟩:=till_one ht;exact absurd (by rw[h1];simp) h60
  rw[till_one_of h60];simp only[Option.getD_some,List.take_left];rw[if_pos hx]
 | data _ tx ht=>
  have e:sData++(tx++[93,93,62])++rest=sData++(tx++([93,93,62]++rest)):=by simp
  rw[e];unfold Tk.piece;rw[if_neg (by simp[sData]),if_pos (by simp[sData])];unfold Tk.skip;rw[if_neg (by simp[sData,sComment]),if_pos (pfx_iff.2 ⟨_,rfl⟩),show List.drop 9 (sData++(tx++([93,93,62]++rest)))=tx++([93,93,62]++rest) from drop_len (by rfl),till_of ht,Option.map_some,List.take_left];simp only[List.length_append,List.length_cons,List.length_nil,sData];congr 2;omega
 | comment _ c ht=>
  have e:sComment++(c++[45,45,62])++rest=sComment++(c++([45,45]++(62 :: rest))):=by simp
  rw[e];unfold Tk.piece;rw[if_neg (by simp[sComment]),if_pos (by simp[sComment])];unfold Tk.skip;rw[if_pos (pfx_iff.2 ⟨_,rfl⟩),show List.drop 4 (sComment++(c++([45,45]++(62 :: rest))))=c++([45,45]++(62 :: rest)) from drop_len (by rfl)];unfold Tk.comment;rw[till_of ht,Option.bind_some,show List.drop (c.length+2) (c++([45,45]++(62 :: rest)))=62 :: rest by rw[←List.append_assoc];exact drop_len (by simp),if_pos (by simp)];simp only[List.length_append,List.length_cons,List.length_nil,sComment,Option.map_some];congr 2;omega
 | decl d hd=>
  rw[List.append_assoc];unfold Tk.piece;rw[if_neg (by simp[sXml]),if_pos (by simp[sXml])];unfold Tk.skip
  have hs:((((sXml++(d++rest)).drop 5).head?).map sp).getD false=true:=by
   rw[show List.drop 5 (sXml++(d++rest))=d++rest from drop_len (by rfl)];obtain⟨v,x,e,a,b,⟨b2,v2,h1,h2,h3,rfl⟩,_,_,_,_,rfl⟩:=hd
   cases b2 with
   | nil=>exact absurd rfl h2
   | cons c b2=>
    unfold Sps at h1;rw[List.all_cons,Bool.and_eq_true] at h1;simp[h1.1]
  rw[if_neg (by simp[sXml,sComment]),if_neg (by simp[sXml,sData]),if_pos ⟨rfl,pfx_iff.2 ⟨_,rfl⟩,hs⟩,show List.drop 5 (sXml++(d++rest))=d++rest from drop_len (by rfl),decl_of hd,Option.map_some];simp only[List.length_append,List.length_cons,List.length_nil,sXml];congr 2;omega
 | instr _ nm y hi hnd=>
  have e:60 :: 63 :: (nm++(y++[63,62]))++rest=60 :: 63 :: (nm++(y++([63,62]++rest))):=by simp
  unfold Tk.piece;rw[if_neg (by simp),if_pos (by simp)];unfold Tk.skip;rw[if_neg (by simp[sComment]),if_neg (by simp[sData]),if_neg (fun hh=>hnd hh.1 rest hh.2),if_pos (by simp),e];rw[show (60 :: 63 :: (nm++(y++([63,62]++rest)))).drop 2=nm++(y++([63,62]++rest)) from rfl,instr_of hi,Option.map_some];simp only[List.length_append,List.length_cons,List.length_nil];congr 2;omega
theorem fine_valid{l:L}(h:fine l=true):Utf.valid l=true:=by
 rw[Utf.valid_pieces,decide_eq_true_eq];unfold fine at h;generalize Utf.pieces l=ps at *
 induction ps with
 | nil=>decide
 | cons p ps ih=>
  rw[List.all_cons,Bool.and_eq_true] at h;rw[Utf.firstBad_pos _ (fun hn=>by rw[charOk_neg' _ hn] at h;cases h.1)];exact ih h.2
theorem fine_from(l:L)(at_:Nat):(Utf.from_ at_ l).all (fun p=>charOk p.2)=fine l:=by
 have:=Utf.from_shift l 0 at_;rw[Nat.zero_add] at this;rw[this,List.all_map];rfl
theorem fine_app{p:L}(h:Utf.valid p=true)(q:L):fine (p++q)=(fine p&&fine q):=by
 have e:fine (p++q)=(Utf.from_ 0 (p++q)).all (fun p=>charOk p.2):=rfl;rw[e,Utf.from_app h,List.all_append,fine_from,fine_from]
theorem fine_both{p q:L}(h:fine p=true)(k:fine q=true):fine (p++q)=true:=by rw[fine_app (fine_valid h),h,k];rfl
theorem fine_parts{p q:L}(h:Utf.valid p=true)(k:fine (p++q)=true):fine p=true∧fine q=true:=by
 rw[fine_app h,Bool.and_eq_true] at k;exact k
theorem fine_ascii{c:UInt8}(hc:c.toNat<128)(q:L):fine (c :: q)=(charOk (c.toNat:Int)&&fine q):=by
 have e:fine (c :: q)=(Utf.from_ 0 (c :: q)).all (fun p=>charOk p.2):=rfl;rw[e,Utf.from_ascii hc,List.all_cons,fine_from]
theorem fine_split{p q:L}{c:UInt8}(hc:c.toNat<128)(h:fine (p++c :: q)=true):fine p=true∧fine q=true:=by
 obtain⟨h1,h2⟩:=fine_parts (Utf.valid_split hc (fine_valid h)) h;rw[fine_ascii hc,Bool.and_eq_true] at h2;exact⟨h1,h2.2⟩
theorem one_word{at_:Nat}{l:L}{t:Tok}(hl:l≠[])(h:Tk.one at_ l=some t):∃w rest,l=w++rest∧TokW at_ w t∧fine w=true∧(t.kind=2→Lt rest):=by
 unfold Tk.one at h
 cases hp:Tk.piece at_ l with
 | none=>rw[hp] at h;cases h
 | some u=>
  rw[hp] at h;simp only[Option.bind_some] at h
  split at h
  ·rename_i hf
   cases h;obtain⟨w,rest,rfl,hw,hk⟩:=piece_word hl hp;rw[hw.end_eq,Nat.add_sub_cancel_left,List.take_left] at hf;exact⟨w,rest,rfl,hw,hf,hk⟩
  cases h
theorem one_of{at_:Nat}{w:L}{t:Tok}(h:TokW at_ w t)(hf:fine w=true){rest:L}(hr:t.kind=2→Lt rest):Tk.one at_ (w++rest)=some t:=by
 unfold Tk.one;rw[piece_of h rest hr,Option.bind_some,h.end_eq,Nat.add_sub_cancel_left,List.take_left,if_pos hf]
inductive Row:Nat→L→L→List Tok→Prop
 | nil (at_:Nat) (rest:L):Row at_ [] rest []
 | cons (at_:Nat) (w:L) (t:Tok) (w2 rest:L) (ts:List Tok):TokW at_ w t→fine w=true→(t.kind=2→Lt (w2++rest))→Row (at_+w.length) w2 rest ts→Row at_ (w++w2) rest (t :: ts)
theorem toks_of{at_:Nat}{w rest:L}{ts:List Tok}(h:Row at_ w rest ts):∀k,(w++rest).length≤k→∃k',rest.length≤k'∧toks k at_ (w++rest)=ts++toks k' (at_+w.length) rest:=by
 induction h with
 | nil at_ rest=>exact fun k hk=>⟨k,hk,rfl⟩
 | cons at_ w t w2 rest ts hw hf hk _ ih=>
  intro k hlen;have h0:=List.length_pos_iff.2 hw.ne;simp only[List.length_append] at hlen;obtain⟨k,rfl⟩:∃j,k=j+1:=⟨k-1,by omega⟩;obtain⟨k',h1,h2⟩:=ih k (by rw[List.length_append];omega);refine⟨k',h1,?_⟩;rw[List.append_assoc,toks_succ,if_neg (by simp;exact fun h=>absurd h hw.ne),one_of hw hf hk];simp only;rw[hw.end_eq,Nat.add_sub_cancel_left,List.drop_left,h2,List.length_append,Nat.add_assoc];rfl
theorem toks_none{k at_:Nat}{l:L}(h:l=[]∨Tk.one at_ l=none):toks k at_ l=[]:=by
 cases k with
 | zero=>rfl
 | succ k=>
  unfold toks
  rcases h with rfl|h
  ·rfl
  rw[h]
  split<;>rfl
theorem toks_row{w rest:L}{ts:List Tok}{at_:Nat}(h:Row at_ w rest ts)(hr:rest=[]∨Tk.one (at_+w.length) rest=none)(k:Nat)(hk:(w++rest).length≤k):toks k at_ (w++rest)=ts:=by
 obtain⟨k',_,h2⟩:=toks_of h k hk;rw[h2,toks_none hr,List.append_nil]
theorem Row.join{at_:Nat}{w1 w2 rest:L}{ts1 ts2:List Tok}(h:Row at_ w1 (w2++rest) ts1)(k:Row (at_+w1.length) w2 rest ts2):Row at_ (w1++w2) rest (ts1++ts2):=by
 generalize hr:w2++rest=r at h
 induction h with
 | nil at_ rest=>exact k
 | cons at_ w t w3 rest ts hw hf hk _ ih=>
  subst hr;rw[List.append_assoc];refine .cons _ _ _ _ _ _ hw hf (by rw[List.append_assoc];exact hk) (ih ?_ rfl);rw[List.length_append,←Nat.add_assoc] at k;exact k
end Tk
end
section
open Go Tk Sx
namespace Opm
theorem escape_cons(c:UInt8)(r:L):Tx.escape true (c :: r)=Tx.esc true c++Tx.escape true r:=List.flatMap_cons
theorem escape_app(a b:L):Tx.escape true (a++b)=Tx.escape true a++Tx.escape true b:=List.flatMap_append
theorem esc_cases(c:UInt8):(c=38∨c=60∨c=62∨c=13∨c=34∨c=9∨c=10)∨(c≠38∧Tx.esc true c=[c]∧c≠60∧c≠34∧c≠13∧c≠9∧c≠10):=by
 by_cases h1:c=38
 ·exact .inl (.inl h1)
 by_cases h2:c=60
 ·exact .inl (.inr (.inl h2))
 by_cases h3:c=62
 ·exact .inl (.inr (.inr (.inl h3)))
 by_cases h4:c=13
 ·exact .inl (.inr (.inr (.inr (.inl h4))))
 by_cases h5:c=34
 ·exact .inl (.inr (.inr (.inr (.inr (.inl h5)))))
 by_cases h6:c=9
 ·exact .inl (.inr (.inr (.inr (.inr (.inr (.inl h6))))))
 by_cases h7:c=10
 ·exact .inl (.inr (.inr (.inr (.inr (.inr (.inr h7))))))
 refine .inr ⟨h1,?_,h2,h5,h4,h6,h7⟩;unfold Tx.esc;rw[if_neg h1,if_neg h2,if_neg h3,if_neg h4,if_neg (fun h=>h5 h.2),if_neg (fun h=>h6 h.2),if_neg (fun h=>h7 h.2)]
theorem sref_esc:∀(x:L) (f k:Nat),(Tx.escape true x).length≤f→sref f k (Tx.escape true x)=.ok x
 | [],f,k,_=>sref_nil
 | c :: r,f,k,h=>by
  rw[escape_cons] at h ⊢;rw[List.length_append] at h
  have ref:∀(w:L) (n v:Nat),Tx.esc true c=38 :: w→(∀E:L,ends (w++E)=some n)→(∀E:L,Sx.scalar ((w++E).take n)=some v)→(∀E:L,(w++E).drop (n+1)=E)→putL v=[c]→sref f k (Tx.esc true c++Tx.escape true r)=.ok (c :: r):=by
   intro w n v h1 h2 h3 h4 h5;rw[h1] at h ⊢;rw[List.length_cons] at h
   match f,h with
   | 0,h=>omega
   | f+1,h=>
    rw[List.cons_append,sref_ref (h2 _) (h3 _),h4,sref_esc r f _ (by omega),h5];rfl
  rcases esc_cases c with h1|⟨h1,h2,-⟩
  ·rcases h1 with rfl|rfl|rfl|rfl|rfl|rfl|rfl
   ·exact ref [97,109,112,59] 3 38 (by decide) (fun E=>by rfl) (fun E=>by rfl) (fun E=>rfl) (by decide)
   ·exact ref [108,116,59] 2 60 (by decide) (fun E=>by rfl) (fun E=>by rfl) (fun E=>rfl) (by decide)
   ·exact ref [103,116,59] 2 62 (by decide) (fun E=>by rfl) (fun E=>by rfl) (fun E=>rfl) (by decide)
   ·exact ref [35,49,51,59] 3 13 (by decide) (fun E=>by rfl) (fun E=>by rfl) (fun E=>rfl) (by decide)
   ·exact ref [113,117,111,116,59] 4 34 (by decide) (fun E=>by rfl) (fun E=>by rfl) (fun E=>rfl) (by decide)
   ·exact ref [35,57,59] 2 9 (by decide) (fun E=>by rfl) (fun E=>by rfl) (fun E=>rfl) (by decide)
   exact ref [35,49,48,59] 3 10 (by decide) (fun E=>by rfl) (fun E=>by rfl) (fun E=>rfl) (by decide)
  rw[h2] at h ⊢
  match f,h with
  | 0,h=>simp at h
  | f+1,h=>
   rw[List.cons_append,List.nil_append,sref_byte h1,sref_esc r f _ (by simp at h;omega)];rfl
theorem escape_mem{x:L}{d:UInt8}(h:d∈Tx.escape true x):d≠60∧d≠34∧d≠13∧d≠9∧d≠10:=by
 obtain⟨c,-,h⟩:=List.mem_flatMap.1 h
 rcases esc_cases c with h1|⟨-,h2,h3⟩
 ·have key:∀w:L,Tx.esc true c=w→(w.all fun d=>d != 60&&(d != 34&&(d != 13&&(d != 9&&d != 10))))=true→d≠60∧d≠34∧d≠13∧d≠9∧d≠10:=fun w e hw=>by
   rw[e] at h;have:=List.all_eq_true.1 hw d h
   simpa using this
  rcases h1 with rfl|rfl|rfl|rfl|rfl|rfl|rfl<;>exact key _ rfl (by decide)
 rw[h2,List.mem_singleton] at h;subst h;exact h3
theorem less_none:∀{l:L},(60:UInt8)∉l→less l=none
 | [],_=>rfl
 | c :: r,h=>by
  rw[less,if_neg (fun e=>h (by rw[e];exact List.mem_cons_self ..)),less_none (fun e=>h (List.mem_cons_of_mem _ e))];rfl
theorem value_esc(x:L):value (Tx.escape true x)=.ok x:=by
 unfold value;rw[less_none (fun h=>(escape_mem h).1 rfl)]
 have hn:(Tx.escape true x).map norm=Tx.escape true x:=by
  conv=>rhs;rw[←List.map_id (Tx.escape true x)]
  refine List.map_congr_left fun d hd=>?_;obtain⟨-,-,h1,h2,h3⟩:=escape_mem hd;exact if_neg (by simp[h1,h2,h3])
 dsimp only;rw[hn,sref_esc x _ _ (Nat.le_refl _)]
theorem fine_escape:∀(n:Nat) (x:L),x.length≤n→fine x=true→fine (Tx.escape true x)=true
 | n,x,hn,hf=>by
  cases hx:x.find? (fun c=>decide (Tx.esc true c≠[c])) with
  | none=>
   have:Tx.escape true x=x:=by
    have h:=List.find?_eq_none.1 hx;clear hx hn hf
    induction x with
    | nil=>rfl
    | cons c r ih=>
     rw[escape_cons,ih fun d hd=>h d (List.mem_cons_of_mem _ hd),show Tx.esc true c=[c] by simpa using h c (List.mem_cons_self ..)];rfl
   rw[this];exact hf
  | some c=>
   obtain⟨h1,p,q,rfl,h2⟩:=List.find?_eq_some_iff_append.1 hx
   have hc:c=38∨c=60∨c=62∨c=13∨c=34∨c=9∨c=10:=by
    rcases esc_cases c with h|h
    ·exact h
    exact absurd h.2.1 (by simpa using h1)
   obtain⟨f1,f2⟩:=fine_split (by rcases hc with rfl|rfl|rfl|rfl|rfl|rfl|rfl<;>decide) hf
   match n,hn with
   | 0,hn=>simp at hn
   | n+1,hn=>
    rw[List.length_append,List.length_cons] at hn;rw[escape_app,escape_cons];refine fine_both (fine_escape n p (by omega) f1) (fine_both ?_ (fine_escape n q (by omega) f2))
    rcases hc with rfl|rfl|rfl|rfl|rfl|rfl|rfl<;>decide
end Opm
end
section
open Go.RowKit Tk Sx

theorem ok_text{st:St}{n M k:Nat}(h:Ok st n M)(x:L)(hx:x.length≤k):Ok (putSt st x) (n+1) (M+k):=by
 refine⟨h.op,Nat.le_trans h.sc (Nat.le_succ _),?_,?_,h.in_,h.srt⟩
 ·exact Nat.le_trans (putEv_len st.evs (textEv x)) (Nat.succ_le_succ h.ev)
 show ∀y∈putEv st.evs (textEv x),y.text.length≤M+k;intro y hy;unfold putEv at hy;rw[if_neg (by simp[textEv])] at hy;have h1:∀z∈st.evs,z.text.length≤M:=h.tx
 split at hy
 ·rename_i z hz
  have hzm:=List.mem_of_getLast? hz
  split at hy
  ·rcases List.mem_append.1 hy with hy|hy
   ·exact Nat.le_trans (h1 y (List.dropLast_subset _ hy)) (Nat.le_add_right _ _)
   rw[List.mem_singleton.1 hy];have:=h1 z hzm;show (z.text++x).length≤_;rw[List.length_append];omega
  split at hy
  ·exact Nat.le_trans (h1 y hy) (Nat.le_add_right _ _)
  rcases List.mem_append.1 hy with hy|hy
  ·exact Nat.le_trans (h1 y hy) (Nat.le_add_right _ _)
  rw[List.mem_singleton.1 hy];show x.length≤_;omega
 split at hy
 ·exact Nat.le_trans (h1 y hy) (Nat.le_add_right _ _)
 rcases List.mem_append.1 hy with hy|hy
 ·exact Nat.le_trans (h1 y hy) (Nat.le_add_right _ _)
 rw[List.mem_singleton.1 hy];show x.length≤_;omega
theorem ok_close{st:St}{n M:Nat}(h:Ok st n M):Ok (closeSt st) (n+1) M:=by
 unfold closeSt;split
 ·exact Ok_up h (Nat.le_succ _)
 rename_i x hx
 have hxm:=List.mem_of_getLast? hx
 have hsp:st.open_=st.open_.dropLast++[x]:=by
  have hne:st.open_≠[]:=fun e=>by rw[e] at hx;cases hx
  rw[List.getLast?_eq_some_getLast hne] at hx;rw[←Option.some.inj hx,List.dropLast_concat_getLast]
 have hp:=h.srt;rw[hsp,List.pairwise_append] at hp;refine⟨?_,?_,?_,?_,?_,hp.1⟩
 ·exact Nat.le_trans (by rw[List.length_dropLast];omega) h.op
 ·exact Nat.le_trans (by rw[List.length_take];omega) (Nat.le_trans h.sc (Nat.le_succ _))
 ·exact Nat.le_trans (putEv_len st.evs ⟨1,x.name,[],[]⟩) (Nat.succ_le_succ h.ev)
 ·exact putEv_tx (x:=⟨1,x.name,[],[]⟩) h.tx (by simp) (by simp)
 intro y hy;show y.scope≤(st.scope.take x.scope).length;have h1:=hp.2.2 y hy x (List.mem_singleton.2 rfl);have h2:=h.in_ x hxm;rw[List.length_take];omega
theorem close_scope(st:St):∀d∈(closeSt st).scope,d∈st.scope:=by
 unfold closeSt;split
 ·exact fun d h=>h
 exact fun d h=>List.mem_of_mem_take h
theorem vals_small{N:Nat}{t:Tok}(h:TokS N t):∀s∈splits t,s.val.length≤4*N:=by
 intro s hs;obtain⟨a,ha,rfl⟩:=List.mem_map.1 hs;have h1:=valOf_short a;have h2:=(h.an a ha).2;exact Nat.le_trans h1 (Nat.mul_le_mul_left 4 h2)
theorem ok_start{st st':St}{t:Tok}{n M V N:Nat}(h:OkS st n M V)(ht:TokS N t)(hV:4*N≤V)(hs:Sx.start st t=.ok st'):OkS st' (n+18) M V:=by
 unfold Sx.start at hs
 cases he:Sx.early st t with
 | some b=>rw[he] at hs;cases hs
 | none=>
  rw[he] at hs
  have he2:t.attrs.length≤16∧st.open_.length≠16:=by
   unfold Sx.early at he
   cases hn:names t with
   | some a=>rw[hn] at he;cases he
   | none=>
    rw[hn] at he;dsimp only at he
    split at he
    ·cases he
    split at he
    ·cases he
    split at he
    ·cases he
    omega
  dsimp only at hs;rw[late_is] at hs
  cases hb:b3 st t with
  | some a=>rw[hb] at hs;cases hs
  | none=>
   rw[hb] at hs;dsimp only at hs;rw[←started_is hb] at hs
   have hl:(sc1 st t).length≤n+17:=by
    unfold sc1;split
    ·have:=declared_len (splits t) st.scope;rw[show (splits t).length=t.attrs.length from List.length_map _] at this;have:=h.ok.sc;unfold scope';omega
    have:=h.ok.sc;omega
   have hok:=startedW_ok h.ok he2.2 hl (by omega)
   have hns:∀d∈(startedW st t (sc1 st t)).scope,d.ns.length≤V:=by
    intro d hd;have hd2:d∈sc1 st t:=hd;unfold sc1 at hd2
    split at hd2
    ·exact declared_ns (splits t) st.scope h.ns (fun s hs=>Nat.le_trans (vals_small ht s hs) hV) d hd2
    exact h.ns d hd2
   cases hte:t.empty with
   | true=>
    rw[hte] at hs;simp only[if_true,Except.ok.injEq] at hs;subst hs;exact⟨ok_close hok,fun d hd=>hns d (close_scope _ d hd)⟩
   | false=>
    rw[hte] at hs;simp only[Bool.false_eq_true,if_false,Except.ok.injEq] at hs;subst hs;exact⟨Ok_up hok (by omega),hns⟩
theorem ok_step{st st':St}{t:Tok}{n M V N:Nat}(h:OkS st n M V)(ht:TokS N t)(hV:4*N≤V)(hs:Sx.step st t=.ok st'):OkS st' (n+18) (M+4*N) V:=by
 have up:∀{st:St} {m M':Nat},Ok st m M'→m≤n+18→M'≤M+4*N→Ok st (n+18) (M+4*N):=fun {st m M'} k h1 h2=>⟨k.op,Nat.le_trans k.sc h1,Nat.le_trans k.ev h1,fun y hy=>Nat.le_trans (k.tx y hy) h2,k.in_,k.srt⟩;unfold Sx.step at hs
 split at hs
 ·have:=ok_start h ht hV hs;exact⟨up this.ok (by omega) (by omega),this.ns⟩
 split at hs
 ·unfold Sx.end_ at hs
  split at hs
  ·cases hs
  split at hs
  ·simp only[Except.ok.injEq] at hs;subst hs;exact⟨up (ok_close h.ok) (by omega) (by omega),fun d hd=>h.ns d (close_scope _ d hd)⟩
  cases hs
 split at hs
 ·unfold Sx.text at hs
  split at hs
  ·split at hs
   ·simp only[Except.ok.injEq] at hs;subst hs;exact⟨up h.ok (by omega) (by omega),h.ns⟩
   cases hs
  split at hs
  ·rename_i x hx
   simp only[Except.ok.injEq] at hs;subst hs;have:=sref_len _ _ _ _ hx;have:=ht.tx;exact⟨up (ok_text h.ok x (k:=4*N) (by omega)) (by omega) (by omega),h.ns⟩
  cases hs
 split at hs
 ·unfold Sx.data at hs
  split at hs
  ·cases hs
  simp only[Except.ok.injEq] at hs;subst hs;have:=ht.tx;exact⟨up (ok_text h.ok t.text (k:=4*N) (by omega)) (by omega) (by omega),h.ns⟩
 simp only[Except.ok.injEq] at hs;subst hs;exact⟨up h.ok (by omega) (by omega),h.ns⟩
end
section
open Go Tk Sx
def Nb(l:L):Prop:=∀p c:Nat,∀d:UInt8,l[p]?=some 60→c=p+1→l[c]?=some d→d≠33∧d≠63
theorem Nb.no{l:L}(h:(60:UInt8)∉l):Nb l:=fun p c d h1 _ _=>absurd (List.mem_of_getElem? h1) h
theorem Nb.app{a b:L}(ha:Nb a)(hb:Nb b)(hl:a.getLast?≠some 60):Nb (a++b):=by
 intro p c d h1 hc h2;subst hc
 by_cases hp:p<a.length
 ·rw[List.getElem?_append_left hp] at h1
  by_cases hp2:p+1<a.length
  ·rw[List.getElem?_append_left hp2] at h2;exact ha p _ d h1 rfl h2
  refine absurd ?_ hl;rw[List.getLast?_eq_getElem?,show a.length-1=p by omega];exact h1
 rw[List.getElem?_append_right (by omega)] at h1 h2;exact hb _ _ d h1 (by omega) h2
theorem Nb.of{l:L}(h:((List.range l.length).all fun p=>decide (l[p]?=some 60→l[p+1]?≠some 33∧l[p+1]?≠some 63))=true):Nb l:=by
 intro p c d h1 hc h2;subst hc;have h:=of_decide_eq_true (List.all_eq_true.1 h p (List.mem_range.2 (List.getElem?_eq_some_iff.1 h1).1)) h1;rw[h2] at h;exact⟨fun e=>h.1 (by rw[e]),fun e=>h.2 (by rw[e])⟩
theorem Nb.pln{l:L}(h:Nb l)(p:Nat):plnAt (l.drop p)=true:=by
 unfold plnAt;rw[Bool.not_eq_true']
 match hd:l.drop p with
 | []=>rfl
 | [c]=>simp[List.isPrefixOf]
 | c :: d :: r=>
  have e1:l[p]?=some c:=by
   have:=congrArg (·[0]?) hd
   simpa using this
  have e2:l[p+1]?=some d:=by
   have:=congrArg (·[1]?) hd
   simpa using this
  by_cases hc:c=60
  ·subst hc;obtain⟨h1,h2⟩:=h p _ d e1 rfl e2;simp[List.isPrefixOf,Ne.symm h1,Ne.symm h2]
  simp[List.isPrefixOf,Ne.symm hc]
theorem run_app(st:St)(a b:List Tok):run st (a++b)=match run st a with | .error x=>.error x | .ok st'=>run st' b:=by
 induction a generalizing st with
 | nil=>rfl
 | cons t a ih=>
  rw[List.cons_append,run,run]
  cases Sx.step st t with
  | error x=>rfl
  | ok st'=>exact ih st'
theorem row_end{at_:Nat}{w rest:L}{ts:List Tok}(h:Row at_ w rest ts):(ts.getLast?.map (·.end_)).getD at_=at_+w.length:=by
 induction h with
 | nil=>rfl
 | cons at_ w t w2 rest ts hw hf hk _ ih=>
  rw[List.getLast?_cons,Option.map_some,Option.getD_some,List.length_append,←Nat.add_assoc,←ih,←hw.end_eq]
  cases ts.getLast?<;>rfl
theorem row_last{at_:Nat}{w rest:L}{ts:List Tok}(h:Row at_ w rest ts)(hn:ts≠[]):tokEnd ts=at_+w.length:=by
 rw[←row_end h];unfold tokEnd
 cases hl:ts.getLast? with
 | none=>exact absurd (List.getLast?_eq_none_iff.1 hl) hn
 | some t=>rfl
theorem smlT_row{D:L}(hf:fine D=true)(hn:Nb D):SmlT D:=by
 refine⟨fine_valid hf,fun p _=>hn.pln p,fun p hp t ht=>?_⟩;obtain⟨w,rest,e,hw,-⟩:=one_word (by intro e;have:=congrArg List.length e;rw[List.length_drop] at this;simp at this;omega) ht;have h0:=List.length_pos_iff.2 hw.ne;have he:=hw.end_eq;have hle:(D.drop p).length=D.length-p:=List.length_drop ..;rw[e,List.length_append] at hle;omega
theorem smlS_toks{D:L}{ts:List Tok}(ht:toks D.length 0 D=ts)(hs:∀t∈ts,TokS 100000 t)(hl:ts.length≤100000):SmlS D:=by
 have key:∀k st,k≤ts.length→run st0 (ts.take k)=.ok st→OkS st (18*k) (400000*k) 1000000:=by
  intro k
  induction k with
  | zero=>
   intro st _ h;cases h;exact⟨⟨by simp[st0],by simp[st0],by simp[st0],by simp[st0],by simp[st0],by simp[st0]⟩,by simp[st0]⟩
  | succ k ih=>
   intro st hk h;rw[List.take_add_one,List.getElem?_eq_getElem (by omega),Option.toList_some,run_snoc] at h
   cases hr:run st0 (ts.take k) with
   | error x=>rw[hr] at h;cases h
   | ok st'=>
    rw[hr] at h;have:=ok_step (N:=100000) (ih st' (by omega) hr) (hs _ (List.getElem_mem (by omega))) (by decide) h;exact⟨⟨this.ok.op,Nat.le_trans this.ok.sc (by omega),Nat.le_trans this.ok.ev (by omega),fun y hy=>Nat.le_trans (this.ok.tx y hy) (by omega),this.ok.in_,this.ok.srt⟩,this.ns⟩
 refine⟨by rw[ht];exact hs,fun k st h=>?_⟩;rw[ht,List.take_eq_take_min] at h;have:=key _ st (by omega) h;have hm:min k ts.length≤100000:=by omega
 exact⟨⟨this.ok.op,Nat.le_trans this.ok.sc (by omega),Nat.le_trans this.ok.ev (by omega),fun y hy=>Nat.le_trans (this.ok.tx y hy) (by omega),this.ok.in_,this.ok.srt⟩,this.ns⟩
end
end Go.Proofs.YtifiiojchlaghaaGreatDoor
