/- Texts: the document's space and Trim. And more. -/
import Derived.Test.YtpdkeckeekchlaaGreatDoorOt36
set_option linter.unusedSimpArgs false
set_option maxRecDepth 100000
set_option maxHeartbeats 16000000
set_option linter.unusedVariables false
namespace Go.Proofs.YtpdkeckeekchlaaGreatDoor
section
open Go.RowKit Go.WideShapes

theorem XO(c:UInt8)(w:World):Calls Tryz.prog 104 #[.int .u8 (c.toNat:Int)] w fun e w'=>e=.returned (.bool (Tx.sp c))∧w'=w:=by
 obtain⟨n,hn⟩:∃n,c.toNat=n:=⟨_,rfl⟩;obtain⟨q,hq⟩:∃q,Tx.sp c=q:=⟨_,rfl⟩;have hs:decide (n=32∨n=9∨n=10∨n=13)=q:=by rw[←hq,←hn];rfl
 rw[hq,hn];clear hq hn
 by_cases h1:n=32
 ·obtain rfl:q=true:=by rw[←hs];exact decide_eq_true (.inl h1)
  subst h1;clear hs
  go_enter Tryz.func104,Tryz.ntmps104
  go_wp2;go_ret;exact⟨rfl,rfl⟩
 by_cases h2:n=9
 ·obtain rfl:q=true:=by rw[←hs];exact decide_eq_true (.inr (.inl h2))
  subst h2;clear hs h1
  go_enter Tryz.func104,Tryz.ntmps104
  go_wp2;go_ret;exact⟨rfl,rfl⟩
 by_cases h3:n=10
 ·obtain rfl:q=true:=by rw[←hs];exact decide_eq_true (.inr (.inr (.inl h3)))
  subst h3;clear hs h1 h2
  go_enter Tryz.func104,Tryz.ntmps104
  go_wp2;go_ret;exact⟨rfl,rfl⟩
 by_cases h4:n=13
 ·obtain rfl:q=true:=by rw[←hs];exact decide_eq_true (.inr (.inr (.inr h4)))
  subst h4;clear hs h1 h2 h3
  go_enter Tryz.func104,Tryz.ntmps104
  go_wp2;go_ret;exact⟨rfl,rfl⟩
 obtain rfl:q=false:=by rw[←hs];exact decide_eq_false (by omega)
 have e1:((n:Int)==32)=false:=by simp;omega
 have e2:((n:Int)==9)=false:=by simp;omega
 have e3:((n:Int)==10)=false:=by simp;omega
 have e4:((n:Int)==13)=false:=by simp;omega
 clear hs h1 h2 h3 h4
 go_enter Tryz.func104,Tryz.ntmps104
 go_wp2;go_ret;exact⟨rfl,rfl⟩
theorem ake(s:ByteArray)(w:World)(hs:s.size≤1000000000):Calls Tryz.prog 103 #[.string s] w fun e w'=>e=.returned (.string (aa (Tx.trim s.data.toList)))∧w'=w:=by
 obtain⟨l,hl⟩:∃l,s.data.toList=l:=⟨_,rfl⟩;obtain rfl:s=aa l:=by rw[←hl,vC]
 clear hl;rw[aZ];rw[aO] at hs;have kY:=ap (fun c W=>XO c W);have HX:=ap (fun (l:List UInt8) a b=>xL l a b);have HZ:=ap (fun (l:List UInt8)=>aO l)
 go_enter Tryz.func103,Tryz.ntmps103
 go_wp2
 go_loopg [0] l.length (fun gk v0 wr=>∃m,gk=m.length∧v0=.string (aa m)∧Tx.l5 m=Tx.l5 l∧m.length≤l.length∧wr=w)
 case atStart=>exact⟨l,rfl,rfl,rfl,Nat.le_refl _,rfl⟩
 case round=>
  obtain⟨m,hg,rfl,ht,jt,hwr⟩:=hrel;subst hwr;have Hg:=ap hg;have HT:=ap ht;have eV:=ap jt;clear hg ht jt
  cases m with
  | nil=>
   have Lz:(aa ([]:List UInt8)).size=0:=aO _;have kZ:=ap (show Tx.jU []=Tx.trim l by unfold Tx.trim;rw[←HT.o];rfl);go_wp2
   go_loopg [0] l.length (fun gk v0 wj=>∃m2,gk+([]:List UInt8).length=m2.length+l.length∧v0=.string (aa m2)∧Tx.jU m2=Tx.trim l∧m2.length≤l.length∧wj=wr)
   case atStart=>exact⟨[],by omega,rfl,kZ.o,eV.o,rfl⟩
   case round=>
    obtain⟨m2,cK,rfl,fe,wB,Ms⟩:=hrel;subst Ms;have mi:=ap cK;have cB:=ap fe;have DR:=ap wB;clear cK fe wB
    rcases Nat.eq_zero_or_pos m2.length with hz|hz
    ·have hnil:m2=[]:=List.eq_nil_of_length_eq_zero hz;subst hnil;have tK:(aa ([]:List UInt8)).size=0:=aO _;clear hz;go_wp2;go_ret;exact⟨by rw[←cB.o];rfl,rfl⟩
    obtain⟨m3,d,e3⟩:∃m3 d,m2=m3++[d]:=⟨m2.dropLast,m2.getLast (by intro e;subst e;simp at hz),(List.dropLast_concat_getLast _).symm⟩;subst e3;have Va:(0:Int)<((m3.length:Nat):Int)+1:=by omega
    obtain⟨k,hk⟩:∃k,m3.length=k:=⟨_,rfl⟩;have eh:k+1≤l.length:=by have:=DR.o;rw[List.length_append,hk] at this;simpa using this
    have hsz:(aa (m3++[d])).size=k+1:=by rw[aO,List.length_append,hk];rfl
    have gB:∀w,(Instr.index 9 (.string (aa (m3++[d]))) (.int .i64 (k:Int))).run Tryz.prog w=.ok (.int .u8 (d.toNat:Nat)) w:=fun w=>uh (aa (m3++[d])) k d (by rw[aZ,←hk,List.getElem?_append_right (Nat.le_refl _),Nat.sub_self];rfl) w;have hex:(aa (m3++[d])).extract 0 k=aa m3:=by rw[xL,List.drop_zero,Nat.sub_zero,List.take_left' hk]
    have zk:IntKind.i64.wrap (((k+1:Nat):Int)-1)=(k:Int):=by rw[IntWalk.i64_in _ (by omega)];omega
    have eM:k<k+1:=Nat.lt_succ_self k;have Hk:=ap hk;clear hk hz;generalize hu:aa (m3++[d])=u at *
    cases jL:Tx.sp d with
    | true=>
     have vp:=ap jL;have HC:=ap (kY.o d wr);rw[jL] at HC;clear jL
     go_wp2_with fail
     go_wp2_with fail
     refine cq (HC.o) ?_
     dsimp only;go_wp2
     go_roundg (m3.length+l.length-([]:List UInt8).length)
     case measure=>have:=mi.o;rw[List.length_append,List.length_singleton] at this;have:=eV.o;omega
     case rel=>
      refine⟨m3,by have:=eV.o;omega,rfl,?_,by rw[Hk.o];omega,rfl⟩;rw[←cB.o,Tx.GZ,if_pos vp.o]
    | false=>
     have vp:=ap jL;have HC:=ap (kY.o d wr);rw[jL] at HC;clear jL;have Hu:=ap hu;clear hu
     go_wp2_with fail
     go_wp2_with fail
     refine cq (HC.o) ?_
     dsimp only;go_wp2;go_ret;refine⟨?_,rfl⟩;rw[←cB.o,Tx.GZ,if_neg (by rw[vp.o];simp),Hu.o];rfl
  | cons c m=>
   have gB:∀w,(Instr.index 9 (.string (aa (c :: m))) (.int .i64 0)).run Tryz.prog w=.ok (.int .u8 (c.toNat:Nat)) w:=fun w=>by have h:=uh (aa (c :: m)) 0 c (by rw[aZ];rfl) w;exact h
   have hsz:(aa (c :: m)).size=m.length+1:=aO _;have hex:(aa (c :: m)).extract 1 (m.length+1)=aa m:=by rw[xL,Nat.add_sub_cancel];show aa (m.take m.length)=_;rw[List.take_length]
   have hmz:0≤(1:Int)∧(1:Int)≤((m.length+1:Nat):Int):=by omega
   cases hsc:Tx.sp c with
   | true=>
    have lh:=ap hsc;have HC:=ap (kY.o c wr);rw[hsc] at HC;clear hsc
    go_wp2_with fail
    go_wp2_with fail
    refine cq (HC.o) ?_
    dsimp only;go_wp2
    go_roundg m.length
    case measure=>have:=Hg.o;rw[List.length_cons] at this;omega
    case rel=>
     refine⟨m,rfl,rfl,?_,by have:=eV.o;rw[List.length_cons] at this;omega,rfl⟩;rw[←HT.o];unfold Tx.l5;rw[List.dropWhile_cons,if_pos lh.o]
   | false=>
    have kZ:=ap (show Tx.jU (c :: m)=Tx.trim l by
     unfold Tx.trim;rw[←HT.o];unfold Tx.l5;rw[List.dropWhile_cons,if_neg (by rw[hsc];simp)])
    have HC:=ap (kY.o c wr);rw[hsc] at HC;clear hsc
    go_wp2_with fail
    go_wp2_with fail
    refine cq (HC.o) ?_
    dsimp only;go_wp2
    go_loopg [0] l.length (fun gk v0 wj=>∃m2,gk+((c :: m):List UInt8).length=m2.length+l.length∧v0=.string (aa m2)∧Tx.jU m2=Tx.trim l∧m2.length≤l.length∧wj=wr)
    case atStart=>exact⟨(c :: m),by omega,rfl,kZ.o,eV.o,rfl⟩
    case round=>
     obtain⟨m2,cK,rfl,fe,wB,Ms⟩:=hrel;subst Ms;have mi:=ap cK;have cB:=ap fe;have DR:=ap wB;clear cK fe wB
     rcases Nat.eq_zero_or_pos m2.length with hz|hz
     ·have hnil:m2=[]:=List.eq_nil_of_length_eq_zero hz;subst hnil;have tK:(aa ([]:List UInt8)).size=0:=aO _;clear hz;go_wp2;go_ret;exact⟨by rw[←cB.o];rfl,rfl⟩
     obtain⟨m3,d,e3⟩:∃m3 d,m2=m3++[d]:=⟨m2.dropLast,m2.getLast (by intro e;subst e;simp at hz),(List.dropLast_concat_getLast _).symm⟩;subst e3;have Va:(0:Int)<((m3.length:Nat):Int)+1:=by omega
     obtain⟨k,hk⟩:∃k,m3.length=k:=⟨_,rfl⟩;have eh:k+1≤l.length:=by have:=DR.o;rw[List.length_append,hk] at this;simpa using this
     have hsz:(aa (m3++[d])).size=k+1:=by rw[aO,List.length_append,hk];rfl
     have gB:∀w,(Instr.index 9 (.string (aa (m3++[d]))) (.int .i64 (k:Int))).run Tryz.prog w=.ok (.int .u8 (d.toNat:Nat)) w:=fun w=>uh (aa (m3++[d])) k d (by rw[aZ,←hk,List.getElem?_append_right (Nat.le_refl _),Nat.sub_self];rfl) w;have hex:(aa (m3++[d])).extract 0 k=aa m3:=by rw[xL,List.drop_zero,Nat.sub_zero,List.take_left' hk]
     have zk:IntKind.i64.wrap (((k+1:Nat):Int)-1)=(k:Int):=by rw[IntWalk.i64_in _ (by omega)];omega
     have eM:k<k+1:=Nat.lt_succ_self k;have Hk:=ap hk;clear hk hz;generalize hu:aa (m3++[d])=u at *
     cases jL:Tx.sp d with
     | true=>
      have vp:=ap jL;have HC:=ap (kY.o d wr);rw[jL] at HC;clear jL
      go_wp2_with fail
      go_wp2_with fail
      refine cq (HC.o) ?_
      dsimp only;go_wp2
      go_roundg (m3.length+l.length-((c :: m):List UInt8).length)
      case measure=>have:=mi.o;rw[List.length_append,List.length_singleton] at this;have:=eV.o;omega
      case rel=>
       refine⟨m3,by have:=eV.o;omega,rfl,?_,by rw[Hk.o];omega,rfl⟩;rw[←cB.o,Tx.GZ,if_pos vp.o]
     | false=>
      have vp:=ap jL;have HC:=ap (kY.o d wr);rw[jL] at HC;clear jL;have Hu:=ap hu;clear hu
      go_wp2_with fail
      go_wp2_with fail
      refine cq (HC.o) ?_
      dsimp only;go_wp2;go_ret;refine⟨?_,rfl⟩;rw[←cB.o,Tx.GZ,if_neg (by rw[vp.o];simp),Hu.o];rfl
end
section
namespace Tx
def iC:Bool→List UInt8→List UInt8
 | _,[]=>[]
 | prev,c :: l=>if sp c then (if prev then iC true l else 32 :: iC true l) else c :: iC false l
def join(ws:List (List UInt8)):List UInt8:=ws.foldl iD []
theorem VV:∀(ws:List (List UInt8)) (a:List UInt8),a≠[]→ws.foldl iD a=a++ws.flatMap fun x=>32 :: x
 | [],a,_=>by simp
 | x :: ws,a,h=>by
  have e:iD a x=a++32 :: x:=by unfold iD;rw[if_neg h]
  rw[List.foldl_cons,e,VV ws _ (by simp),List.flatMap_cons];simp
theorem join_cons{x:List UInt8}(hx:x≠[])(ws:List (List UInt8)):join (x :: ws)=x++ws.flatMap fun x=>32 :: x:=by
 unfold join;rw[List.foldl_cons];have e:iD [] x=x:=by unfold iD;rw[if_pos rfl]
 rw[e,VV ws x hx]
theorem agU{x y:List UInt8}(hx:x≠[])(hy:y≠[])(ws:List (List UInt8)):join (x :: y :: ws)=x++32 :: join (y :: ws):=by
 rw[join_cons hx,join_cons hy,List.flatMap_cons];simp
theorem G7:∀(l cur:List UInt8),∀x∈bq cur l,x≠[]
 | [],cur,x,hx=>by
  unfold bq at hx
  split at hx
  ·cases hx
  rename_i h
  rw[List.mem_singleton.1 hx];exact h
 | c :: l,cur,x,hx=>by
  unfold bq at hx
  split at hx
  ·split at hx
   ·exact G7 l [] x hx
   rename_i h
   rcases List.mem_cons.1 hx with rfl|hx
   ·exact h
   exact G7 l [] x hx
  exact G7 l _ x hx
def kj:List UInt8→Bool
 | []=>false
 | [c]=>!sp c
 | _ :: l=>kj l
theorem Kj{c:UInt8}{l:List UInt8}(h:l≠[]):kj (c :: l)=kj l:=by
 cases l with
 | nil=>exact absurd rfl h
 | cons d l=>rfl
theorem OJ:∀(l cur:List UInt8),(kj l=true∨cur≠[])→bq cur l≠[]
 | [],cur,h=>by
  unfold bq
  rcases h with h|h
  ·cases h
  rw[if_neg h];simp
 | c :: l,cur,h=>by
  unfold bq;split
  ·rename_i hc
   split
   ·rename_i h0
    have h1:kj (c :: l)=true:=by
     rcases h with h|h
     ·exact h
     exact absurd h0 h
    cases l with
    | nil=>unfold kj at h1;rw[hc] at h1;cases h1
    | cons d l=>exact OJ (d :: l) [] (.inl h1)
   simp
  exact OJ l _ (.inr (by simp))
theorem Gx:∀(l cur:List UInt8),(cur≠[]→l=[]∨kj l=true→join (bq cur l)=cur++iC false l)∧(cur=[]→kj l=true→join (bq [] l)=iC true l)
 | [],cur=>⟨fun h _=>by
   unfold bq iC;rw[if_neg h,join_cons h]
   simp,fun _ h=>by cases h⟩
 | c :: l,cur=>by
  obtain⟨i1,_⟩:=Gx l (cur++[c]);obtain⟨_,i2⟩:=Gx l [];obtain⟨i3,_⟩:=Gx l [c];refine⟨fun h he=>?_,fun _ he=>?_⟩
  ·have hf:kj (c :: l)=true:=by
    rcases he with he|he
    ·cases he
    exact he
   unfold bq iC
   by_cases hc:sp c=true
   ·rw[if_pos hc,if_pos hc,if_neg h,if_neg (by decide)]
    have hl:l≠[]:=by
     rintro rfl;unfold kj at hf;rw[hc] at hf;cases hf
    have tM:kj l=true:=by rwa[Kj hl] at hf
    have hs:=OJ l [] (.inl tM);have hi:=i2 rfl tM
    cases hw:bq [] l with
    | nil=>exact absurd hw hs
    | cons y ws=>
     rw[hw] at hi;rw[agU h (G7 l [] y (by rw[hw];simp)),hi]
   rw[if_neg hc,if_neg hc]
   have:=i1 (by simp) (by
    cases l with
    | nil=>exact .inl rfl
    | cons d l=>exact .inr hf)
   rw[this,List.append_assoc];rfl
  unfold bq iC
  by_cases hc:sp c=true
  ·have hl:l≠[]:=by
    rintro rfl;unfold kj at he;rw[hc] at he;cases he
   rw[if_pos hc,if_pos hc,if_pos rfl,if_pos rfl];exact i2 rfl (by rwa[Kj hl] at he)
  rw[if_neg hc,if_neg hc,List.nil_append]
  exact i3 (by simp) (by
   cases l with
   | nil=>exact .inl rfl
   | cons d l=>exact .inr he)
theorem SK:∀(l:List UInt8) (c:UInt8),kj (l++[c]) = !sp c
 | [],c=>rfl
 | d :: l,c=>by rw[List.cons_append,Kj (by simp),SK l c]
theorem Kh:∀l:List UInt8,l.dropWhile sp=[]∨∃c t,l.dropWhile sp=c :: t∧sp c=false
 | []=>.inl rfl
 | c :: l=>by
  rw[List.dropWhile_cons];split
  ·exact Kh l
  rename_i h
  exact .inr ⟨c,l,rfl,by simpa using h⟩
theorem amU(l:List UInt8):jU l=[]∨kj (jU l)=true:=by
 unfold jU
 rcases Kh l.reverse with e|⟨c,t,e,hc⟩
 ·rw[e];exact .inl rfl
 rw[e,List.reverse_cons,SK,hc];exact .inr rfl
theorem anF(l:List UInt8):bq [] (l5 l)=bq [] l:=by
 unfold l5
 induction l with
 | nil=>rfl
 | cons c l ih=>
  rw[List.dropWhile_cons];split
  ·rename_i h
   rw[ih]
   conv=>rhs;unfold bq
   rw[if_pos h,if_pos rfl]
  rfl
theorem OG:∀(l cur:List UInt8) (c:UInt8),sp c=true→bq cur (l++[c])=bq cur l
 | [],cur,c,h=>by
  rw[List.nil_append];unfold bq;rw[if_pos h];unfold bq;rw[if_pos rfl]
 | d :: l,cur,c,h=>by
  rw[List.cons_append];unfold bq;rw[OG l [] c h,OG l _ c h]
theorem anG(l cur:List UInt8):bq cur (jU l)=bq cur l:=by
 unfold jU
 have key:∀m:List UInt8,bq cur (m.dropWhile sp).reverse=bq cur m.reverse:=fun m=>by
  induction m with
  | nil=>rfl
  | cons c m ih=>
   rw[List.dropWhile_cons];split
   ·rename_i h
    rw[ih,List.reverse_cons,OG _ _ _ h]
   rfl
 have:=key l.reverse;rwa[List.reverse_reverse] at this
theorem YQ(l:List UInt8):trim l=[]∨∃c t,trim l=c :: t∧sp c=false:=by
 unfold trim
 rcases Kh l with e|⟨c,t,e,hc⟩
 ·unfold l5;rw[e];exact .inl rfl
 unfold l5;rw[e];refine .inr ⟨c,?_⟩;unfold jU
 have key:∀m:List UInt8,∃t',((m++[c]).dropWhile sp).reverse=c :: t':=fun m=>by
  induction m with
  | nil=>exact⟨[],by rw[List.nil_append,List.dropWhile_cons,if_neg (by rw[hc];decide)];rfl⟩
  | cons d m ih=>
   rw[List.cons_append,List.dropWhile_cons];split
   ·exact ih
   exact⟨m.reverse++[d],by simp⟩
 obtain⟨t',ht⟩:=key t.reverse;rw[List.reverse_cons];exact⟨t',ht,hc⟩
theorem aip(l:List UInt8):one l=iC false (trim l):=by
 unfold one words;rw[←anF l,←anG (l5 l) []];show join (bq [] (trim l))=_
 rcases YQ l with e|⟨c,t,e,hc⟩
 ·rw[e];rfl
 have hf:kj (trim l)=true:=by
  rcases amU (l5 l) with h|h
  ·unfold trim at e;rw[e] at h;cases h
  exact h
 rw[e] at hf ⊢;unfold bq iC;rw[if_neg (by rw[hc];decide),if_neg (by rw[hc];decide),List.nil_append]
 have:=(Gx t [c]).1 (by simp) (by
  cases t with
  | nil=>exact .inl rfl
  | cons d t=>exact .inr hf)
 exact this
end Tx
end
section
open Go.RowKit Go.WideShapes

theorem aim{l:List UInt8}{i:Nat}{c:UInt8}(h:l[i]?=some c)(prev:Bool):Tx.iC prev (l.drop i)=if Tx.sp c then (if prev then Tx.iC true (l.drop (i+1)) else 32 :: Tx.iC true (l.drop (i+1))) else c :: Tx.iC false (l.drop (i+1)):=by
 rw[MB h];rfl
theorem aj2(s:ByteArray)(w:World)(hs:s.size≤1000000) :
  Calls Tryz.prog 71 #[.string s] w fun e w'=>e=.returned (.string (aa (Tx.one s.data.toList)))∧Below w.heap.size w w':=by
 have l9:=ap (ake s w (by omega));obtain⟨l,hl⟩:∃l,Tx.trim s.data.toList=l:=⟨_,rfl⟩;have HOn:=ap (show Tx.one s.data.toList=Tx.iC false l by rw[Tx.aip,hl]);have iU:l.length≤1000000:=by rw[←hl];have:=Tx.amW s.data.toList;rw[bV] at this;omega
 have Z7:=ap (show ∀c,l[0]?=some c→Tx.sp c=false from fun c hc=>by
  rcases Tx.YQ s.data.toList with e|⟨d,t,e,hd⟩
  ·rw[hl] at e;rw[e] at hc;cases hc
  rw[hl] at e;rw[e] at hc;cases hc;exact hd)
 rw[hl] at l9;clear hl;obtain⟨N,hN⟩:∃N,l.length=N:=⟨_,rfl⟩;have HN:=ap hN;have qJ:=ap (show (aa l).size=N by rw[aO,hN]);rw[hN] at iU;have pC:=ap (fun i c (h:l[i]?=some c) W=>uh (aa l) i c (by rw[aZ];exact h) W);have kY:=ap (fun c W=>XO c W);obtain⟨S,hS⟩:∃S,aa l=S:=⟨_,rfl⟩;rw[hS] at l9 qJ pC;clear hS hN hs
 go_enter Tryz.func71,Tryz.ntmps71
 go_wp2_with fail
 go_wp2_with fail
 refine cq (l9.o) ?_
 have hsz:=qJ.o;go_wp2
 go_loopg [3,4] N (fun gk v3 v4 wr=>∃(i m:Nat) (A:Option Addr) (c:Nat) (pre:List UInt8) (prev:Bool),gk=N-i∧i≤N∧v4=.int .i64 (i:Int)∧v3=.slice A m c∧pre.length=m∧m≤i∧wr.ownsRow w.heap.size 5 1 (.slice A m c) m (bE pre)∧pre++Tx.iC prev (l.drop i)=Tx.iC false l∧(∀j d,j+1=i→l[j]?=some d→Tx.sp d=prev)∧Below w.heap.size w wr)
 case atStart=>exact⟨0,0,none,0,[],false,rfl,by omega,rfl,rfl,rfl,by omega,World.ownsRow_nil _ _ _ _,rfl,fun j d h=>(by omega),Below.refl _ _⟩
 case round=>
  obtain⟨i,m,A,c,pre,prev,au,hi,rfl,rfl,U9,hm,ho,heq,Vd,hb⟩:=hrel;have Hg:=ap au;have HO:=ap ho;have IQ:=ap U9;have HEq:=ap heq;have HPv:=ap Vd;have HB:=ap hb;clear au ho U9 heq Vd hb
  by_cases hlt:i<N
  ·obtain⟨x,hx⟩:∃x,l[i]?=some x:=⟨_,List.getElem?_eq_getElem (by rw[HN.o];exact hlt)⟩;have gB:=pC.o i x hx;have aX:=aim hx prev;have HX:=ap hx;have HC:=ap (kY.o x);have aN:w.heap.size≤wr.heap.size:=HB.o.size;clear hx
   cases qh:Tx.sp x with
   | false=>
    simp only[qh,Bool.false_eq_true,if_false] at aX;rw[qh] at HC;have aQ:=ap aX;have DZ:=ap qh;clear aX qh
    go_wp2_with fail
    go_wp2_with fail
    refine cq (HC.o _) ?_
    go_wp2_with (at_builtin;go_loud (refine et wr rfl (.tmp 18) (.tmp 22) 50 rfl w.heap.size (.int .u8 0) 1 1 Tryz.underlying50 wM rfl (by omega) (.slice A m c) m (bE pre) rfl HO.o (cs:=[.int .u8 (x.toNat:Int)]) rfl (by simp[Value.oneCell']) rfl (by unfold maxLen;omega) (by omega) aN ?_);intro g' cap' w1 hown1 cN kv fX ak;have eR:=ap hown1;have ax:=ap (HB.o.grown cN aN (fun k e=>(aD HO.o k e).1));clear hown1 cN kv fX ak)
    go_roundg (N-(i+1))
    case measure=>have:=Hg.o;omega
    case rel=>
     refine⟨i+1,m+1,some ⟨g',0,none⟩,cap',pre++[x],false,rfl,by omega,by first|rfl|go_num,rfl,by rw[List.length_append,IQ.o];rfl,by omega,?_,?_,fun j d hj hd=>?_,ax.o⟩
     ·rw[Et];exact eR.o
     ·rw[List.append_assoc];have:=HEq.o;rw[aQ.o] at this;exact this
     obtain rfl:j=i:=by omega
     rw[HX.o] at hd;cases hd;exact DZ.o
   | true=>
    have rC:i≠0:=by
     rintro rfl;rw[Z7.o x HX.o] at qh;cases qh
    obtain⟨j,hj⟩:∃j,j+1=i:=⟨i-1,by omega⟩;have hjz:0≤(j:Int)∧(j:Int)<N:=by omega
    obtain⟨d,hd⟩:∃d,l[j]?=some d:=⟨_,List.getElem?_eq_getElem (by rw[HN.o];omega)⟩;have jL:=HPv.o j d hj hd;have aoO:=pC.o j d hd;have HD:=ap (kY.o d);rw[jL] at HD;simp only[qh,if_true] at aX;rw[qh] at HC;have z1:IntKind.i64.wrap ((i:Int)-1)=(j:Int):=by rw[IntWalk.i64_in _ (by omega)];omega
    have DZ:=ap qh;clear hd jL rC qh hj
    cases prev with
    | true=>
     simp only[if_true] at aX;have aQ:=ap aX;clear aX
     go_wp2_with fail
     go_wp2_with fail
     refine cq (HC.o _) ?_
     go_wp2_with fail
     go_wp2_with fail
     refine cq (HD.o _) ?_
     go_wp2
     go_roundg (N-(i+1))
     case measure=>have:=Hg.o;omega
     case rel=>
      refine⟨i+1,m,A,c,pre,true,rfl,by omega,by first|rfl|go_num,rfl,IQ.o,by omega,HO.o,?_,fun k d2 hk bJ=>?_,HB.o⟩
      ·have:=HEq.o;rw[aQ.o] at this;exact this
      obtain rfl:k=i:=by omega
      rw[HX.o] at bJ;cases bJ;exact DZ.o
    | false=>
     simp only[Bool.false_eq_true,if_false] at aX;have aQ:=ap aX;clear aX
     go_wp2_with fail
     go_wp2_with fail
     refine cq (HC.o _) ?_
     go_wp2_with fail
     go_wp2_with fail
     refine cq (HD.o _) ?_
     go_wp2_with (at_builtin;go_loud (refine et wr rfl (.tmp 30) (.tmp 31) 50 rfl w.heap.size (.int .u8 0) 1 1 Tryz.underlying50 wM rfl (by omega) (.slice A m c) m (bE pre) rfl HO.o (cs:=[.int .u8 32]) rfl (by simp[Value.oneCell']) rfl (by unfold maxLen;omega) (by omega) aN ?_);intro g' cap' w1 hown1 cN kv fX ak;have eR:=ap hown1;have ax:=ap (HB.o.grown cN aN (fun k e=>(aD HO.o k e).1));clear hown1 cN kv fX ak)
     go_roundg (N-(i+1))
     case measure=>have:=Hg.o;omega
     case rel=>
      refine⟨i+1,m+1,some ⟨g',0,none⟩,cap',pre++[32],true,rfl,by omega,by first|rfl|go_num,rfl,by rw[List.length_append,IQ.o];rfl,by omega,?_,?_,fun k d2 hk bJ=>?_,ax.o⟩
      ·rw[Et];exact eR.o
      ·rw[List.append_assoc];have:=HEq.o;rw[aQ.o] at this;exact this
      obtain rfl:k=i:=by omega
      rw[HX.o] at bJ;cases bJ;exact DZ.o
  have LB:=HEq.o;rw[List.drop_eq_nil_of_le (by rw[HN.o];omega)] at LB;have he:Tx.iC false l=pre:=by rw[←LB];unfold Tx.iC;simp
  have aK:=HO;have HE:=ap he;clear LB he
  go_wp2_with (refine nW rfl 50 9 5 _ rfl Tryz.underlying50 Tryz.underlying5 Tryz.underlying9 w.heap.size _ m (by rfl) pre aK.o ?_;intro t ht;have Ht:=ap (NX ht);clear ht)
  go_ret;exact⟨by rw[HOn.o,HE.o,←Ht.o];rfl,HB.o⟩
end
section
open Go.RowKit Go.WideShapes

theorem XI(r:Int)(w:World):Calls Tryz.prog 190 #[.int .i64 r] w fun e w'=>e=.returned (.int .i64 (Nf.cls r))∧w'=w:=by
 obtain⟨q,hq⟩:∃q,Nf.cls r=q:=⟨_,rfl⟩;rw[hq]
 by_cases hc:r=832
 ·subst hc;have hv:q=230:=by rw[←hq];decide
  subst hv;clear hq
  go_enter Tryz.func190,Tryz.ntmps190
  go_wp2;go_ret;exact⟨rfl,rfl⟩
 have ap0:(r==832)=false:=by simp;omega
 have yS:=hc;clear hc
 by_cases hc:r=833
 ·subst hc;have hv:q=230:=by rw[←hq];decide
  subst hv;clear hq
  go_enter Tryz.func190,Tryz.ntmps190
  go_wp2;go_ret;exact⟨rfl,rfl⟩
 have ap1:(r==833)=false:=by simp;omega
 have yT:=hc;clear hc
 by_cases hc:r=789
 ·subst hc;have hv:q=232:=by rw[←hq];decide
  subst hv;clear hq
  go_enter Tryz.func190,Tryz.ntmps190
  go_wp2;go_ret;exact⟨rfl,rfl⟩
 have apV:(r==789)=false:=by simp;omega
 have yN:=hc;clear hc
 by_cases hc:r=795
 ·subst hc;have hv:q=216:=by rw[←hq];decide
  subst hv;clear hq
  go_enter Tryz.func190,Tryz.ntmps190
  go_wp2;go_ret;exact⟨rfl,rfl⟩
 have apW:(r==795)=false:=by simp;omega
 have yO:=hc;clear hc
 by_cases hc:r=807
 ·subst hc;have hv:q=202:=by rw[←hq];decide
  subst hv;clear hq
  go_enter Tryz.func190,Tryz.ntmps190
  go_wp2;go_ret;exact⟨rfl,rfl⟩
 have apX:(r==807)=false:=by simp;omega
 have yP:=hc;clear hc
 by_cases hc:r=808
 ·subst hc;have hv:q=202:=by rw[←hq];decide
  subst hv;clear hq
  go_enter Tryz.func190,Tryz.ntmps190
  go_wp2;go_ret;exact⟨rfl,rfl⟩
 have apY:(r==808)=false:=by simp;omega
 have yQ:=hc;clear hc
 by_cases hc:r=824
 ·subst hc;have hv:q=1:=by rw[←hq];decide
  subst hv;clear hq
  go_enter Tryz.func190,Tryz.ntmps190
  go_wp2;go_ret;exact⟨rfl,rfl⟩
 have apZ:(r==824)=false:=by simp;omega
 have yR:=hc;clear hc
 by_cases hc:r=837
 ·subst hc;have hv:q=240:=by rw[←hq];decide
  subst hv;clear hq
  go_enter Tryz.func190,Tryz.ntmps190
  go_wp2;go_ret;exact⟨rfl,rfl⟩
 have ap2:(r==837)=false:=by simp;omega
 have yU:=hc;clear hc
 by_cases g1:r<768
 ·have hv:q=0:=by rw[←hq];unfold Nf.cls;(repeat' split)<;>omega
  subst hv;have f0:decide (768≤r)=false:=decide_eq_false (by omega);have f1:decide (790≤r)=false:=decide_eq_false (by omega);have f2:decide (803≤r)=false:=decide_eq_false (by omega);clear hq g1 yS yT yN yO yP yQ yR yU
  go_enter Tryz.func190,Tryz.ntmps190
  go_wp2;go_ret;exact⟨rfl,rfl⟩
 by_cases g2:r≤788
 ·have hv:q=230:=by rw[←hq];unfold Nf.cls;(repeat' split)<;>omega
  subst hv;have f0:decide (768≤r)=true:=decide_eq_true (by omega);have f1:decide (r≤788)=true:=decide_eq_true (by omega);clear hq g1 g2 yS yT yN yO yP yQ yR yU
  go_enter Tryz.func190,Tryz.ntmps190
  go_wp2;go_ret;exact⟨rfl,rfl⟩
 by_cases g3:r≤793
 ·have hv:q=220:=by rw[←hq];unfold Nf.cls;(repeat' split)<;>omega
  subst hv;have f0:decide (768≤r)=true:=decide_eq_true (by omega);have f1:decide (r≤788)=false:=decide_eq_false (by omega);have f2:decide (790≤r)=true:=decide_eq_true (by omega);have f3:decide (r≤793)=true:=decide_eq_true (by omega);clear hq g1 g2 g3 yS yT yN yO yP yQ yR yU
  go_enter Tryz.func190,Tryz.ntmps190
  go_wp2;go_ret;exact⟨rfl,rfl⟩
 by_cases g4:r<803
 ·have hv:q=0:=by rw[←hq];unfold Nf.cls;(repeat' split)<;>omega
  subst hv;have f0:decide (768≤r)=true:=decide_eq_true (by omega);have f1:decide (r≤788)=false:=decide_eq_false (by omega);have f2:decide (790≤r)=true:=decide_eq_true (by omega);have f3:decide (r≤793)=false:=decide_eq_false (by omega);have f4:decide (803≤r)=false:=decide_eq_false (by omega);clear hq g1 g2 g3 g4 yS yT yN yO yP yQ yR yU
  go_enter Tryz.func190,Tryz.ntmps190
  go_wp2;go_ret;exact⟨rfl,rfl⟩
 by_cases g5:r≤806
 ·have hv:q=220:=by rw[←hq];unfold Nf.cls;(repeat' split)<;>omega
  subst hv;have f0:decide (768≤r)=true:=decide_eq_true (by omega);have f1:decide (r≤788)=false:=decide_eq_false (by omega);have f2:decide (790≤r)=true:=decide_eq_true (by omega);have f3:decide (r≤793)=false:=decide_eq_false (by omega);have f4:decide (803≤r)=true:=decide_eq_true (by omega);have f5:decide (r≤806)=true:=decide_eq_true (by omega);clear hq g1 g2 g3 g4 g5 yS yT yN yO yP yQ yR yU
  go_enter Tryz.func190,Tryz.ntmps190
  go_wp2;go_ret;exact⟨rfl,rfl⟩
 have hv:q=0:=by rw[←hq];unfold Nf.cls;(repeat' split)<;>omega
 subst hv;have f0:decide (768≤r)=true:=decide_eq_true (by omega);have f1:decide (r≤788)=false:=decide_eq_false (by omega);have f2:decide (790≤r)=true:=decide_eq_true (by omega);have f3:decide (r≤793)=false:=decide_eq_false (by omega);have f4:decide (803≤r)=true:=decide_eq_true (by omega);have f5:decide (r≤806)=false:=decide_eq_false (by omega);clear hq g1 g2 g3 g4 g5 yS yT yN yO yP yQ yR yU
 go_enter Tryz.func190,Tryz.ntmps190
 go_wp2;go_ret;exact⟨rfl,rfl⟩
theorem XK(r:Int)(w:World):Calls Tryz.prog 220 #[.int .i64 r] w fun e w'=>e=.returned (.bool (Nf.gA r))∧w'=w:=by
 obtain⟨q,hq⟩:∃q,Nf.gA r=q:=⟨_,rfl⟩;rw[hq];unfold Nf.gA at hq
 by_cases h1:44032≤r
 ·by_cases h2:r<55204
  ·have hv:q=true:=by rw[←hq];exact decide_eq_true (by omega)
   subst hv;clear hq
   go_enter Tryz.func220,Tryz.ntmps220
   go_wp2;go_ret;exact⟨rfl,rfl⟩
  have hv:q=false:=by rw[←hq];exact decide_eq_false (by omega)
  subst hv;clear hq
  go_enter Tryz.func220,Tryz.ntmps220
  go_wp2;go_ret;exact⟨rfl,rfl⟩
 have hv:q=false:=by rw[←hq];exact decide_eq_false (by omega)
 subst hv;clear hq
 go_enter Tryz.func220,Tryz.ntmps220
 go_wp2;go_ret;exact⟨rfl,rfl⟩
end
section
open Go.RowKit Go.WideShapes

theorem nh(a b:ByteArray):(a++b).data.toList=a.data.toList++b.data.toList:=by simp
theorem XJ(q:Bool)(l:List UInt8)(w:World)(hs:l.length≤1000000000) :
  Calls Tryz.prog 38 #[.string (aa l),.bool q] w fun e w'=>e=.returned (.string (aa (Tx.escape q l)))∧w'=w:=by
 obtain⟨N,hN⟩:∃N,l.length=N:=⟨_,rfl⟩;have HN:=ap hN;have qJ:=ap (show (aa l).size=N by rw[aO,hN]);rw[hN] at hs;have pC:=ap (fun i c (h:l[i]?=some c) W=>uh (aa l) i c (by rw[aZ];exact h) W);have uO:=ap (fun i c (h:l[i]?=some c)=>show (aa l).extract i (i+1)=aa [c] by rw[xL,Nat.add_sub_cancel_left,MB h];rfl)
 have aae:=ap (fun j (T:ByteArray) (hj:j≤N) (h:T.data.toList=Tx.escape q (l.take j))=>show T.size≤6000000000 by
  rw[←bV,h];have:=Tx.tj q (l.take j);rw[List.length_take] at this
  omega)
 obtain⟨S,hS⟩:∃S,aa l=S:=⟨_,rfl⟩;rw[hS] at qJ pC uO ⊢;clear hS hN;have hsz:=qJ.o
 go_enter Tryz.func38,Tryz.ntmps38
 go_wp2
 go_loopg [5,6,20,27,34,41,48,58,68] N (fun gk v5 v6 v20 v27 v34 v41 v48 v58 v68 wr=>∃(j:Nat) (T:ByteArray),gk=N-j∧j≤N∧v6=.int .i64 (j:Int)∧v5=.string T∧T.data.toList=Tx.escape q (l.take j)∧wr=w)
 case atStart=>exact⟨0,_,rfl,by omega,rfl,rfl,rfl,rfl⟩
 case round=>
  obtain⟨j,T,au,hj,rfl,rfl,hT,hwr⟩:=hrel;subst hwr;have Hg:=ap au;have HT:=ap hT;have jy:=aae.o j T hj hT;clear au hT
  by_cases hlt:j<N
  ·obtain⟨x,hx⟩:∃x,l[j]?=some x:=⟨_,List.getElem?_eq_getElem (by rw[HN.o];exact hlt)⟩;have gB:=pC.o j x hx;have hex:=uO.o j x hx;have aQ:=ap (Tx.SP (q:=q) hx);have wy:0≤(j:Int)∧(j:Int)+1≤(N:Int):=by omega
   have z1:IntKind.i64.wrap ((j:Int)+1)=((j+1:Nat):Int):=by rw[IntWalk.i64_in _ (by omega)];omega
   have kk:∀n:Nat,n≤10→¬9223372036854775807<T.size+n:=fun n hn=>by omega
   have k1:=kk 1 (by omega);have k4:=kk 4 (by omega);have k5:=kk 5 (by omega);have k6:=kk 6 (by omega);have hs1:(aa [x]).size=1:=aO _;clear hx kk jy
   by_cases FO:x=38
   ·subst FO;have yp:∀W,(Instr.index 9 (.string S) (.int .i64 (j:Int))).run Tryz.prog W=.ok (.int .u8 38) W:=gB;clear gB hex hs1;go_wp2
    go_roundg (N-(j+1))
    case measure=>have:=Hg.o;omega
    case rel=>exact⟨j+1,_,rfl,by omega,by first|rfl|go_num,rfl,by rw[nh,aQ.o,←HT.o];rfl,rfl⟩
   by_cases FP:x=60
   ·subst FP;have yp:∀W,(Instr.index 9 (.string S) (.int .i64 (j:Int))).run Tryz.prog W=.ok (.int .u8 60) W:=gB;clear gB hex hs1;go_wp2
    go_roundg (N-(j+1))
    case measure=>have:=Hg.o;omega
    case rel=>exact⟨j+1,_,rfl,by omega,by first|rfl|go_num,rfl,by rw[nh,aQ.o,←HT.o];rfl,rfl⟩
   by_cases FQ:x=62
   ·subst FQ;have yp:∀W,(Instr.index 9 (.string S) (.int .i64 (j:Int))).run Tryz.prog W=.ok (.int .u8 62) W:=gB;clear gB hex hs1;go_wp2
    go_roundg (N-(j+1))
    case measure=>have:=Hg.o;omega
    case rel=>exact⟨j+1,_,rfl,by omega,by first|rfl|go_num,rfl,by rw[nh,aQ.o,←HT.o];rfl,rfl⟩
   by_cases FM:x=13
   ·subst FM;have yp:∀W,(Instr.index 9 (.string S) (.int .i64 (j:Int))).run Tryz.prog W=.ok (.int .u8 13) W:=gB;clear gB hex hs1;go_wp2
    go_roundg (N-(j+1))
    case measure=>have:=Hg.o;omega
    case rel=>exact⟨j+1,_,rfl,by omega,by first|rfl|go_num,rfl,by rw[nh,aQ.o,←HT.o];rfl,rfl⟩
   by_cases FN:x=34
   ·subst FN;have yp:∀W,(Instr.index 9 (.string S) (.int .i64 (j:Int))).run Tryz.prog W=.ok (.int .u8 34) W:=gB;clear gB
    cases q with
    | true=>
     clear hex hs1;go_wp2
     go_roundg (N-(j+1))
     case measure=>have:=Hg.o;omega
     case rel=>exact⟨j+1,_,rfl,by omega,by first|rfl|go_num,rfl,by rw[nh,aQ.o,←HT.o];rfl,rfl⟩
    | false=>
     skip
     go_wp2
     go_roundg (N-(j+1))
     case measure=>have:=Hg.o;omega
     case rel=>exact⟨j+1,_,rfl,by omega,by first|rfl|go_num,rfl,by rw[nh,aQ.o,←HT.o];rfl,rfl⟩
   by_cases FR:x=9
   ·subst FR;have yp:∀W,(Instr.index 9 (.string S) (.int .i64 (j:Int))).run Tryz.prog W=.ok (.int .u8 9) W:=gB;clear gB
    cases q with
    | true=>
     clear hex hs1;go_wp2
     go_roundg (N-(j+1))
     case measure=>have:=Hg.o;omega
     case rel=>exact⟨j+1,_,rfl,by omega,by first|rfl|go_num,rfl,by rw[nh,aQ.o,←HT.o];rfl,rfl⟩
    | false=>
     skip
     go_wp2
     go_roundg (N-(j+1))
     case measure=>have:=Hg.o;omega
     case rel=>exact⟨j+1,_,rfl,by omega,by first|rfl|go_num,rfl,by rw[nh,aQ.o,←HT.o];rfl,rfl⟩
   by_cases FL:x=10
   ·subst FL;have yp:∀W,(Instr.index 9 (.string S) (.int .i64 (j:Int))).run Tryz.prog W=.ok (.int .u8 10) W:=gB;clear gB
    cases q with
    | true=>
     clear hex hs1;go_wp2
     go_roundg (N-(j+1))
     case measure=>have:=Hg.o;omega
     case rel=>exact⟨j+1,_,rfl,by omega,by first|rfl|go_num,rfl,by rw[nh,aQ.o,←HT.o];rfl,rfl⟩
    | false=>
     skip
     go_wp2
     go_roundg (N-(j+1))
     case measure=>have:=Hg.o;omega
     case rel=>exact⟨j+1,_,rfl,by omega,by first|rfl|go_num,rfl,by rw[nh,aQ.o,←HT.o];rfl,rfl⟩
   have he:Tx.dy q x=[x]:=by
    unfold Tx.dy;rw[if_neg FO,if_neg FP,if_neg FQ,if_neg FM,if_neg (fun h=>FN h.2),if_neg (fun h=>FR h.2),if_neg (fun h=>FL h.2)]
   rw[he] at aQ
   have hne:∀c:UInt8,x≠c→((x.toNat:Int)==(c.toNat:Int))=false:=fun c h=>by
    have:x.toNat≠c.toNat:=fun e=>h (UInt8.toNat_inj.1 e)
    simp;omega
   have n38:((x.toNat:Int)==38)=false:=hne 38 FO;have n60:((x.toNat:Int)==60)=false:=hne 60 FP;have n62:((x.toNat:Int)==62)=false:=hne 62 FQ;have n13:((x.toNat:Int)==13)=false:=hne 13 FM;have n34:((x.toNat:Int)==34)=false:=hne 34 FN;have n9:((x.toNat:Int)==9)=false:=hne 9 FR;have n10:((x.toNat:Int)==10)=false:=hne 10 FL;clear hne he FO FP FQ FM FN FR FL
   cases q with
   | true=>
    skip
    go_wp2
    go_roundg (N-(j+1))
    case measure=>have:=Hg.o;omega
    case rel=>exact⟨j+1,_,rfl,by omega,by first|rfl|go_num,rfl,by rw[nh,aQ.o,←HT.o];rfl,rfl⟩
   | false=>
    skip
    go_wp2
    go_roundg (N-(j+1))
    case measure=>have:=Hg.o;omega
    case rel=>exact⟨j+1,_,rfl,by omega,by first|rfl|go_num,rfl,by rw[nh,aQ.o,←HT.o];rfl,rfl⟩
  have oN:l.take j=l:=List.take_of_length_le (by rw[HN.o];omega);have he:=HT.o;rw[oN] at he;have hT:T=aa (Tx.escape q l):=by rw[←he,vC]
  have HTe:=ap hT;clear oN he hT jy;go_wp2;go_ret;exact⟨by rw[←HTe.o];rfl,rfl⟩
end
section
open Go.RowKit Tk Sx Go.WideShapes

theorem abF(x:aB)(w:World)(h1:x.pre.length≤300)(h2:x.ns.length≤300) :
  Calls Tryz.prog 22 #[.agg #[.string (aa x.pre),.string (aa x.ns)]] w fun e w'=>e=.returned (.string (aa (Opm.one x)))∧Below w.heap.size w w':=by
 have HN:=ap (fun W=>XJ true x.ns W (by omega));have HU:=ap (fun W=>XJ true x.pre W (by omega));have l1:=Tx.tj true x.ns;have l2:=Tx.tj true x.pre
 have hO:(⟨#[60,111,117,116,108,105,110,101,32,116,101,120,116,61,34]⟩:ByteArray)++aa (Tx.escape true x.ns)++⟨#[34,32,120,109,108,85,114,108,61,34]⟩++aa (Tx.escape true x.pre)++⟨#[34,47,62]⟩=aa (Opm.one x):=by
  unfold Opm.one;rw[←vB,←vB,←vB,←vB];rfl
 have s1:(aa (Tx.escape true x.ns)).size≤2000:=by rw[aO];omega
 have s2:(aa (Tx.escape true x.pre)).size≤2000:=by rw[aO];omega
 generalize aa (Tx.escape true x.ns)=E1 at *
 generalize aa (Tx.escape true x.pre)=E2 at *
 obtain⟨T1,e1⟩:∃T,(⟨#[60,111,117,116,108,105,110,101,32,116,101,120,116,61,34]⟩:ByteArray)++E1=T:=⟨_,rfl⟩;obtain⟨T2,e2⟩:∃T,T1++(⟨#[34,32,120,109,108,85,114,108,61,34]⟩:ByteArray)=T:=⟨_,rfl⟩;obtain⟨T3,e3⟩:∃T,T2++E2=T:=⟨_,rfl⟩;have t1:T1.size=15+E1.size:=by rw[←e1,ByteArray.size_append];rfl
 have t2:T2.size=T1.size+10:=by rw[←e2,ByteArray.size_append];rfl
 have t3:T3.size=T2.size+E2.size:=by rw[←e3,ByteArray.size_append]
 have z1:¬9223372036854775807<(⟨#[60,111,117,116,108,105,110,101,32,116,101,120,116,61,34]⟩:ByteArray).size+E1.size:=by show ¬_<15+_;omega
 have z2:¬9223372036854775807<T1.size+(⟨#[34,32,120,109,108,85,114,108,61,34]⟩:ByteArray).size:=by show ¬_<_+10;omega
 have z3:¬9223372036854775807<T2.size+E2.size:=by omega
 have z4:¬9223372036854775807<T3.size+(⟨#[34,47,62]⟩:ByteArray).size:=by show ¬_<_+3;omega
 rw[e1,e2,e3] at hO;generalize aa x.ns=N0 at *
 generalize aa x.pre=U0 at *
 have V:=ap (ae.new w 37 #[.string U0,.string N0]);have B:=ap ((Below.refl _ w).alloc (Nat.le_refl _) (.cells #[.string U0,.string N0] 37));clear t1 t2 t3 s1 s2 l1 l2
 go_enter Tryz.func22,Tryz.ntmps22
 go_wp2;generalize w.alloc (.cells #[.string U0,.string N0] 37)=W at *
 have y0:W.cell? ⟨w.heap.size,0,none⟩=some (.string U0):=V.o.cell 0;have y1:W.cell? ⟨w.heap.size,1,none⟩=some (.string N0):=V.o.cell 1;clear V;refine wp_region_quiet_lit (by kernel_rfl) (by kernel_rfl) ?_
 repeat (go_big_quiet_step (fail))
 go_big_quiet_step ((go_at_call 38;exact Calls.quiet_of_same (HN.o _)))
 repeat (go_big_quiet_step (fail))
 go_big_quiet_step ((go_at_call 38;exact Calls.quiet_of_same (HU.o _)))
 repeat (go_big_quiet_step (fail))
 refine wpQuiet_nil ?_;rintro _ ⟨nq,rfl⟩;go_wp2;go_ret;exact⟨rfl,below_drewN B.o _⟩
end
section
open Go.RowKit Go.WideShapes




theorem akb(s:ByteArray)(w:World)(hs:s.size≤1000000000)(hv:Utf.valid s.data.toList=true) :
  Calls Tryz.prog 98 #[.string s] w fun e w'=>∃A c,e=.returned (.tuple #[.slice A (bn s.data.toList).length c,.bool true])∧Below w.heap.size w w'∧Reads w' w'.heap.size 1 A (bn s.data.toList).length (aq (bn s.data.toList)):=by
 have Hv0:=ap hv;clear hv
 go_enter Tryz.func98,Tryz.ntmps98
 go_wp2
 go_loopg [4,5] s.size (fun g vo va wr=>∃(k:Nat) (A:Option Addr) (c:Nat) (pre:List Int),g=s.size-k∧k≤s.size∧pre.length≤k∧va=.int .i64 k∧vo=.slice A pre.length c∧Utf.valid (s.data.toList.drop k)=true∧
  bn s.data.toList=pre++(Utf.from_ k (s.data.toList.drop k)).map (·.2)∧wr.ownsRow w.heap.size 3 1 (.slice A pre.length c) pre.length (aq pre)∧Below w.heap.size w wr)
 case atStart=>exact⟨0,none,0,[],rfl,by omega,by simp,rfl,rfl,Hv0.o,rfl,World.ownsRow_nil _ _ _ _,Below.refl _ _⟩
 case round=>
  obtain⟨k,A,c,pre,hg,hk,hn,rfl,rfl,hv,hsc,hown,hb⟩:=hrel;have Hv:=ap hv;have Hg:=ap hg;have lh:=ap hsc;clear hv hg hsc
  by_cases hlt:k<s.size
  ·have hp:=Xp s k hlt;have hval:=Y9 s k hlt;have fJ:=ER s k hlt;have HN:=ap (MZ s k wr (by omega) (by omega) hs);rw[Int.toNat_natCast] at HN;obtain⟨f,hf⟩:∃f,Utf.piece (s.data.toList.drop k)=f:=⟨_,rfl⟩;rw[hf] at hp hval HN fJ;rw[Hv.o] at hval;have ek:¬f.1<0:=fun h=>by rw[if_pos h] at hval;cases hval
   rw[if_neg ek] at hval;have Ec:=ap hval;have qO:=ap fJ;have e1:am (kO f=.tuple #[.int .i64 f.1,.int .i64 f.2,.bool true]):=by show kO f=_;unfold kO;rw[if_neg ek]
   obtain⟨m,hm⟩:∃m,pre.length=m:=⟨_,rfl⟩;have Hm:=ap hm;rw[hm] at hown hn ⊢;clear hf hval fJ hm
   go_wp2_with fail
   refine HN.o.mono ?_;rintro e w' ⟨rfl,rfl⟩;rw[e1.o]
   go_wp2_with (first
    | (at_builtin;go_loud (refine et wr rfl (.tmp 22) (.tmp 24) 164 rfl w.heap.size (.int .i64 0) 1 8 Tryz.underlying164 fM rfl (by omega) (.slice A m c) m (aq pre) rfl hown (cs:=[.int .i64 f.1]) rfl (by simp[Value.oneCell']) rfl (by unfold maxLen;omega) (by omega) hb.size ?_);intro g' cap' w1 hown1 cN kv fX ak))
   go_roundg (s.size-(k+f.2.toNat))
   case measure=>have:=Hg.o;omega
   case rel=>
    have e2:(pre++[f.1]).length=m+1:=by rw[List.length_append,Hm.o];rfl
    refine⟨k+f.2.toNat,some ⟨g',0,none⟩,cap',pre++[f.1],rfl,by omega,by rw[e2];omega,int_eq (by omega),by rw[e2],Ec.o.symm,?_,?_,hb.grown cN hb.size (fun j hj=>(aD hown j hj).1)⟩
    ·rw[lh.o,qO.o];simp
    rw[e2,show aq (pre++[f.1])=aq pre++[.int .i64 f.1] by simp[aq]];exact hown1
  have hall:(Utf.from_ k (s.data.toList.drop k)).map (·.2)=[]:=by rw[List.drop_of_length_le (by rw[bV];omega),Utf.AR];rfl
  have hsc:=lh.o;rw[hall,List.append_nil] at hsc;have bt:=ap hsc;clear hall hsc;go_wp2;go_ret2;exact⟨A,c,by rw[bt.o];rfl,hb,by rw[bt.o];exact Reads.cY hown⟩
end
end Go.Proofs.YtpdkeckeekchlaaGreatDoor
