/- NFC: the doubles; what a scalar is made of. And more. -/
import Derived.Test.YtifiiojchlaghaaGreatDoorOk05
import Derived.Test.YtifiiojchlaghaaGreatDoorOk20
import Derived.Test.YtifiiojchlaghaaGreatDoorOk21
import Derived.OneCell
import Derived.Deep.Onto
set_option linter.unusedSimpArgs false
set_option maxRecDepth 100000
set_option maxHeartbeats 4000000
set_option linter.unusedVariables false
namespace Go.Proofs.YtifiiojchlaghaaGreatDoor
section
open Go.RowKit Go.WideShapes

theorem wpList_insert_own{H:Type}{P:Program}(w:World){ops:Array Oper}{rest:List Oper}{o:Oper}{a:Act}{Q:Exit→Act→World→Prop}
  (hg:o.guard=none) (m x v:Operand) (t:TypeId) (hop:o.op=Op.insert t m x v)
  (k e:TypeId) (K:Maps.Keyed P k) (ht:P.underlying t=some (.map k e)) (R:Value→Option (DataW H×List MemPlace)) (b n:Nat) (D:DataW H)
  (hm:a.eval m=.map (some b)) (hown:w.ownsMap P k R b n D) (hn:n<maxLen) (key val:Value) (kl:Lit) (hx:a.eval x=key) (hv:a.eval v=val) (hkey:keyOf P k key=some kl)
  (d:DataW H) (ps:List MemPlace) (hval:R val=some (d,ps))
  (hK:∀w',w'.ownsMap P k R b (n+1) (D.put kl d)→w.grownBy w' (some b)→wpList P ops Q rest (a.put o.dst undef) w') :
  wpList P ops Q (o :: rest) a w:=by
 refine wpList_plain hg fun K' hK'=>?_;obtain⟨w',hrun,r1,r2⟩:=hown.update K ht hn hkey hval;unfold Oper.wp;simp[execOp,hop,hm,hx,hv,hrun,Result.andThen];exact hK' _ _ (hK w' r1 r2)
structure DM(w:World)(b n:Nat)(l:List (Int×Int))(D:DataW Unit):Prop where
 own:w.ownsMap Tryz.prog 3 (plainElem Tryz.prog 3) b n D
 at_:∀r,D.atKey (.int .i64 r) (.lit (.int .i64 0))=.lit (.int .i64 ((Nf.lookD r l).getD 0))
 has:∀r,Maps.has D (.int .i64 r)=(Nf.lookD r l).isSome
def dblD:DataW Unit:=(((((DataW.map []).put (.int .i64 832) (.lit (.int .i64 768))).put (.int .i64 833) (.lit (.int .i64 769))).put (.int .i64 8486) (.lit (.int .i64 937))).put (.int .i64 8490) (.lit (.int .i64 75))).put (.int .i64 8491) (.lit (.int .i64 197))
theorem dbl_at(r:Int):dblD.atKey (.int .i64 r) (.lit (.int .i64 0))=.lit (.int .i64 ((Nf.lookD r Nf.doubles).getD 0)):=by
 have hi:Maps.IsMap (H:=Unit) (.map []):=Maps.isMap_empty;unfold dblD Nf.doubles;simp only[Nf.lookD]
 by_cases h5:r=8491
 ·subst h5;rw[Maps.atKey_put_same ((((hi.put _ _).put _ _).put _ _).put _ _) (by simp[WideAt.IsKeyLit])];rfl
 rw[Maps.atKey_put_other (by simpa using h5)]
 by_cases h4:r=8490
 ·subst h4;rw[Maps.atKey_put_same (((hi.put _ _).put _ _).put _ _) (by simp[WideAt.IsKeyLit])];rfl
 rw[Maps.atKey_put_other (by simpa using h4)]
 by_cases h3:r=8486
 ·subst h3;rw[Maps.atKey_put_same ((hi.put _ _).put _ _) (by simp[WideAt.IsKeyLit])];rfl
 rw[Maps.atKey_put_other (by simpa using h3)]
 by_cases h2:r=833
 ·subst h2;rw[Maps.atKey_put_same (hi.put _ _) (by simp[WideAt.IsKeyLit])];rfl
 rw[Maps.atKey_put_other (by simpa using h2)]
 by_cases h1:r=832
 ·subst h1;rw[Maps.atKey_put_same hi (by simp[WideAt.IsKeyLit])];rfl
 rw[Maps.atKey_put_other (by simpa using h1)];rw[if_neg (fun e=>h1 e.symm),if_neg (fun e=>h2 e.symm),if_neg (fun e=>h3 e.symm),if_neg (fun e=>h4 e.symm),if_neg (fun e=>h5 e.symm)];rfl
theorem dbl_has(r:Int):Maps.has dblD (.int .i64 r)=(Nf.lookD r Nf.doubles).isSome:=by
 have hi:Maps.IsMap (H:=Unit) (.map []):=Maps.isMap_empty;unfold dblD Nf.doubles;simp only[Nf.lookD]
 by_cases h5:r=8491
 ·subst h5;rw[Maps.has_put_same ((((hi.put _ _).put _ _).put _ _).put _ _) (by simp[WideAt.IsKeyLit])];rfl
 rw[Maps.has_put_other (by simpa using h5)]
 by_cases h4:r=8490
 ·subst h4;rw[Maps.has_put_same (((hi.put _ _).put _ _).put _ _) (by simp[WideAt.IsKeyLit])];rfl
 rw[Maps.has_put_other (by simpa using h4)]
 by_cases h3:r=8486
 ·subst h3;rw[Maps.has_put_same ((hi.put _ _).put _ _) (by simp[WideAt.IsKeyLit])];rfl
 rw[Maps.has_put_other (by simpa using h3)]
 by_cases h2:r=833
 ·subst h2;rw[Maps.has_put_same (hi.put _ _) (by simp[WideAt.IsKeyLit])];rfl
 rw[Maps.has_put_other (by simpa using h2)]
 by_cases h1:r=832
 ·subst h1;rw[Maps.has_put_same hi (by simp[WideAt.IsKeyLit])];rfl
 rw[Maps.has_put_other (by simpa using h1)];rw[if_neg (fun e=>h1 e.symm),if_neg (fun e=>h2 e.symm),if_neg (fun e=>h3 e.symm),if_neg (fun e=>h4 e.symm),if_neg (fun e=>h5 e.symm)];rfl
theorem doubles_any(w:World) :
  Calls Tryz.prog 215 #[] w fun e w'=>∃b n D,e=.returned (.map (some b))∧DM w' b n Nf.doubles D∧Below w.heap.size w w':=by
 have hmm:=@run_makeMap Tryz.prog;have HO:=hide (World.ownsMap_made (H:=Unit) w Tryz.prog 3 (plainElem Tryz.prog 3));have HB:=hide (below_alloc w (.map #[] 0))
 go_enter Tryz.func215,Tryz.ntmps215
 go_wp2_with (refine (wpList_insert_own _ rfl _ _ _ 120 rfl 3 3 law_int Tryz.underlying120 _ w.heap.size _ _ rfl HO.out (by decide) _ _ _ (by rfl) (by rfl) (Maps.keyOf_int_mk Tryz.underlying3 (by decide)) _ [] (plainElem_int Tryz.underlying3 (by decide)) ?_);clear HO;intro w1 hown hg;have HO:=hide hown;have HB1:=hide (HB.out.grown hg HB.out.size (fun j hj=>by cases hj;exact Nat.le_refl _));clear HB hg hown;have HB:=HB1;clear HB1)
 go_ret;exact⟨w.heap.size,_,dblD,rfl,⟨HO.out,dbl_at,dbl_has⟩,HB.out⟩
def madeV(r:Int):Value:=match Nf.made r with
 | some (a,b)=>.tuple #[.int .i64 a,.int .i64 b,.bool true]
 | none=>.tuple #[.int .i64 0,.int .i64 0,.bool false]
theorem field_made(x y:Value)(w:World):(Instr.field 217 (.agg #[x,y]) 1).run Tryz.prog w=.ok y w:=by kernel_rfl
theorem prD_inj{x y:Int×Int}(h:prD x=prD y):x=y:=by
 unfold prD at h;simp only[DataW.agg.injEq,List.cons.injEq,DataW.lit.injEq,Lit.int.injEq,true_and,and_true] at h;exact Prod.ext h.1 h.2
theorem pair_of{v:Value}{ps:List MemPlace}{o:Option (Int×Int)}(hv:pairElem v=some ((o.map prD).getD (prD (0,0)),ps)):v=.agg #[.int .i64 (o.getD (0,0)).1,.int .i64 (o.getD (0,0)).2]:=by
 obtain⟨y,rfl,he⟩:=pairElem_inv hv;have h1:=congrArg Prod.fst he
 have h2:o.getD (0,0)=y:=by
  cases o with
  | none=>exact prD_inj h1
  | some p=>exact prD_inj h1
 rw[h2];rfl
theorem zero_pr(w:World):(zeroValue 219).run Tryz.prog w=.ok (.agg #[.int .i64 0,.int .i64 0]) w:=by kernel_rfl
theorem zero_intF(w:World):(zeroValue 3).run Tryz.prog w=.ok (.int .i64 0) w:=by kernel_rfl
theorem made_any(r:Int)(w:World)(h0:0≤r)(h1:r≤1114111) :
  Calls Tryz.prog 206 #[.int .i64 r] w fun e w'=>e=.returned (madeV r)∧Below w.heap.size w w':=by
 have HH:=hide (fun W=>hangul_any r W);unfold madeV Nf.made
 cases hg:Nf.hangul r with
 | true=>
  rw[hg] at HH;rw[if_pos rfl];have hr:=of_decide_eq_true hg;obtain⟨n,hn⟩:∃n:Nat,r=44032+n:=⟨(r-44032).toNat,by omega⟩;subst hn;have hw:IntKind.i64.wrap (44032+(n:Int)-44032)=(n:Int):=by rw[IntWalk.i64_in _ (by omega)];omega
  have hm:Int.tmod (n:Int) 28=((n % 28:Nat):Int):=by rw[Int.tmod_eq_emod_of_nonneg (by omega)];omega
  have e1:(44032+(n:Int)-0xAC00) % 28=((n % 28:Nat):Int):=by omega
  have e2:(44032+(n:Int)-0xAC00) / 28=((n / 28:Nat):Int):=by omega
  rw[e1,e2];obtain⟨t,ht⟩:∃t,n % 28=t:=⟨_,rfl⟩;rw[ht] at hm ⊢;have htl:t<28:=by omega
  by_cases hp:0<t
  ·rw[if_pos (by omega)];have hp2:(0:Int)<(t:Int):=by omega
   have hq:=hr;clear hg hr e1 e2 ht
   go_enter Tryz.func206,Tryz.ntmps206
   go_wp2_with fail
   refine cq (HH.out _) ?_
   go_wp2;go_ret3;exact⟨rfl,Below.refl _ _⟩
  have ht0:t=0:=by omega
  subst ht0;rw[if_neg (by omega)];have hd:Int.tdiv (n:Int) 28=((n / 28:Nat):Int):=by rw[Int.tdiv_eq_ediv_of_nonneg (by omega)];omega
  obtain⟨k,hk⟩:∃k,n / 28=k:=⟨_,rfl⟩;rw[hk] at hd ⊢;have hkl:k<400:=by omega
  have hd2:Int.tdiv (k:Int) 21=((k / 21:Nat):Int):=by rw[Int.tdiv_eq_ediv_of_nonneg (by omega)];omega
  have hm2:Int.tmod (k:Int) 21=((k % 21:Nat):Int):=by rw[Int.tmod_eq_emod_of_nonneg (by omega)];omega
  have e3:(k:Int) / 21=((k / 21:Nat):Int):=by omega
  have e4:(k:Int) % 21=((k % 21:Nat):Int):=by omega
  rw[e3,e4];obtain⟨a,ha⟩:∃a,k / 21=a:=⟨_,rfl⟩;obtain⟨b,hb⟩:∃b,k % 21=b:=⟨_,rfl⟩;rw[ha] at hd2 ⊢;rw[hb] at hm2 ⊢;have hal:a<20:=by omega
  have hbl:b<21:=by omega
  clear hg hr e1 e2 e3 e4 ht hk ha hb
  go_enter Tryz.func206,Tryz.ntmps206
  go_wp2_with fail
  refine cq (HH.out _) ?_
  go_wp2;go_ret3;exact⟨rfl,Below.refl _ _⟩
 | false=>
  rw[hg] at HH;rw[if_neg (by simp)];have HT:=hide (fun W=>table_any W);have HD:=hide (fun W=>doubles_any W);have hwr:(Lit.int .i64 r).wf=true:=WalkArith.wf_i64 (by omega)
  cases hm:Nf.lookM r Nf.table with
  | some p=>
   obtain⟨pa,pb⟩:=p;clear hg
   go_enter Tryz.func206,Tryz.ntmps206
   go_wp2_with fail
   refine cq (HH.out _) ?_
   go_wp2_with fail
   refine (HT.out _).mono ?_;rintro e w1 ⟨m,q,n,n',D,D',rfl,hp,hq,b1⟩;have HQ:=hide hq;have B1:=hide b1;have hfl:=field_made (.map (some m)) (.map (some q)) w1;clear hp hq b1
   go_wp2_with (at_lookup;go_loud (refine wpList_lookup_own_ok _ rfl _ _ 215 rfl 3 219 law_int Tryz.underlying215 pairElem (zero_pr _) (prD (0,0)) [] (pairElem_mk (0,0)) q n' D' rfl HQ.out.own _ _ (by rfl) (Maps.keyOf_int_mk Tryz.underlying3 hwr) ?_);intro v ps hv;rw[HQ.out.at_,hm] at hv;have hv2:=pair_of (o:=some (pa,pb)) hv;clear hv;subst hv2;rw[HQ.out.has,hm];dsimp only[Option.getD_some,Option.isSome_some])
   go_wp2_with fail
   have B2:=hide (B1.out.trans ((below_alloc w1 (.cells #[.int .i64 pa,.int .i64 pb] 219)).mono B1.out.size));have hk:=Blk.new w1 219 #[.int .i64 pa,.int .i64 pb];have c0:=hk.cell 0;have c1:=hk.cell 1;simp only[List.getElem?_toArray,List.getElem?_cons_zero,List.getElem?_cons_succ] at c0 c1;clear hk;generalize w1.alloc (.cells #[.int .i64 pa,.int .i64 pb] 219)=W at B2 c0 c1 ⊢
   go_region
   go_wp2;go_ret3;exact⟨rfl,B2.out.drew⟩
  | none=>
   clear hg
   go_enter Tryz.func206,Tryz.ntmps206
   go_wp2_with fail
   refine cq (HH.out _) ?_
   go_wp2_with fail
   refine (HT.out _).mono ?_;rintro e w1 ⟨m,q,n,n',D,D',rfl,hp,hq,b1⟩;have HQ:=hide hq;have B1:=hide b1;have hfl:=field_made (.map (some m)) (.map (some q)) w1;clear hp hq b1
   go_wp2_with (at_lookup;go_loud (refine wpList_lookup_own_ok _ rfl _ _ 215 rfl 3 219 law_int Tryz.underlying215 pairElem (zero_pr _) (prD (0,0)) [] (pairElem_mk (0,0)) q n' D' rfl HQ.out.own _ _ (by rfl) (Maps.keyOf_int_mk Tryz.underlying3 hwr) ?_);intro v ps hv;rw[HQ.out.at_,hm] at hv;have hv2:=pair_of (o:=none) hv;clear hv;subst hv2;rw[HQ.out.has,hm];dsimp only[Option.getD_none,Option.isSome_none])
   go_wp2_with fail
   refine (HD.out _).mono ?_;rintro e w2 ⟨b,nb,Db,rfl,hd,b2⟩;have HDm:=hide hd;have B2:=hide ((B1.out.trans ((below_alloc w1 (.cells #[.int .i64 0,.int .i64 0] 219)).mono B1.out.size)).trans (b2.mono (by rw[World.size_alloc];exact Nat.le_succ_of_le B1.out.size)));clear hd b2
   cases hdl:Nf.lookD r Nf.doubles with
   | some a0=>
    go_wp2_with (at_lookup;refine wpList_lookup_own_ok_int _ rfl _ _ 120 rfl 3 3 .i64 law_int Tryz.underlying120 Tryz.underlying3 (zero_intF _) b nb Db rfl HDm.out.own _ _ (by rfl) (Maps.keyOf_int_mk Tryz.underlying3 hwr) ?_;intro cv hv _;rw[HDm.out.at_,hdl] at hv;injection hv with hv;injection hv with _ hv;subst hv;rw[HDm.out.has,hdl];dsimp only[Option.getD_some,Option.isSome_some])
    go_ret3;exact⟨rfl,B2.out⟩
   | none=>
    go_wp2_with (at_lookup;refine wpList_lookup_own_ok_int _ rfl _ _ 120 rfl 3 3 .i64 law_int Tryz.underlying120 Tryz.underlying3 (zero_intF _) b nb Db rfl HDm.out.own _ _ (by rfl) (Maps.keyOf_int_mk Tryz.underlying3 hwr) ?_;intro cv hv _;rw[HDm.out.at_,hdl] at hv;injection hv with hv;injection hv with _ hv;subst hv;rw[HDm.out.has,hdl];dsimp only[Option.getD_none,Option.isSome_none])
    go_ret3;exact⟨rfl,B2.out⟩
end
section
open Go.RowKit Go.WideShapes

def wholeV(a b:Int):Value:=match Nf.whole a b with
 | some v=>.tuple #[.int .i64 v,.bool true]
 | none=>.tuple #[.int .i64 0,.bool false]
theorem field_whole(x y:Value)(w:World):(Instr.field 217 (.agg #[x,y]) 0).run Tryz.prog w=.ok x w:=by kernel_rfl
theorem whole_any(a b:Int)(w:World)(a0:0≤a)(a1:a≤1114111)(b0:0≤b)(b1:b≤1114111) :
  Calls Tryz.prog 149 #[.int .i64 a,.int .i64 b] w fun e w'=>e=.returned (wholeV a b)∧Below w.heap.size w w':=by
 have HH:=hide (fun W=>hangul_any a W);have H1:=hide (fun W=>in_any a 4352 19 W (by decide));have H2:=hide (fun W=>in_any b 4449 21 W (by decide));have H3:=hide (fun W=>in_any b 4520 27 W (by decide));have HT:=hide (fun W=>table_any W);have hwa:(Lit.int .i64 a).wf=true:=WalkArith.wf_i64 (by omega);have hwb:(Lit.int .i64 b).wf=true:=WalkArith.wf_i64 (by omega);have hw1:IntKind.i64.wrap (a-44032)=a-44032:=IntWalk.i64_in _ (by omega);unfold wholeV Nf.whole
 cases p1:decide ((4352:Int)≤a∧a<4352+19) with
 | true=>
  rw[p1] at H1;have q1:=of_decide_eq_true p1;have hgf:Nf.hangul a=false:=decide_eq_false (by omega);rw[hgf] at HH
  cases p2:decide ((4449:Int)≤b∧b<4449+21) with
  | true=>
   rw[p2] at H2;have q2:=of_decide_eq_true p2;rw[if_pos ⟨q1,q2⟩];have e1:IntKind.i64.wrap (a-4352)=a-4352:=IntWalk.i64_in _ (by omega);have e2:IntKind.i64.wrap ((a-4352)*21)=(a-4352)*21:=IntWalk.i64_in _ (by omega);have e3:IntKind.i64.wrap ((a-4352)*21+b)=(a-4352)*21+b:=IntWalk.i64_in _ (by omega);have e4:IntKind.i64.wrap ((a-4352)*21+b-4449)=(a-4352)*21+b-4449:=IntWalk.i64_in _ (by omega);have e5:IntKind.i64.wrap (((a-4352)*21+b-4449)*28)=((a-4352)*21+b-4449)*28:=IntWalk.i64_in _ (by omega);have e6:IntKind.i64.wrap (44032+((a-4352)*21+b-4449)*28)=44032+((a-4352)*21+b-4449)*28:=IntWalk.i64_in _ (by omega);clear q1 q2 p1 p2
   go_enter Tryz.func149,Tryz.ntmps149
   go_wp2_with fail
   refine cq (H1.out _) ?_
   go_wp2_with fail
   refine cq (H2.out _) ?_
   go_wp2;go_ret2;exact⟨rfl,Below.refl _ _⟩
  | false=>
   rw[p2] at H2;have q2:=of_decide_eq_false p2;rw[if_neg (fun h=>q2 h.2),if_neg (by rw[hgf];simp)];clear q1 q2 p1 p2 hgf
   go_enter Tryz.func149,Tryz.ntmps149
   go_wp2_with fail
   refine cq (H1.out _) ?_
   go_wp2_with fail
   refine cq (H2.out _) ?_
   go_wp2_with fail
   refine cq (HH.out _) ?_
   go_wp2_with fail
   refine (HT.out _).mono ?_;rintro e w1 ⟨m,q,n,n',D,D',rfl,hp,hq,b1⟩;have HP:=hide hp;have B1:=hide b1;have hfl:=field_whole (.map (some m)) (.map (some q)) w1;clear hp hq b1
   cases hl:Nf.lookW (a,b) Nf.table with
   | some v=>
    go_wp2_with (at_lookup;refine wpList_lookup_own_ok_int _ rfl _ _ 214 rfl 219 3 .i64 law_pr Tryz.underlying214 Tryz.underlying3 (zero_intF _) m n D rfl HP.out.own _ _ (by rfl) (keyOf_pr (x:=(a,b)) ⟨hwa,hwb⟩) ?_;intro cv hv _;rw[HP.out.at_ _ ⟨hwa,hwb⟩,hl] at hv;injection hv with hv;injection hv with _ hv;subst hv;rw[HP.out.has _ ⟨hwa,hwb⟩,hl];dsimp only[Option.getD_some,Option.isSome_some])
    go_ret2;exact⟨rfl,B1.out⟩
   | none=>
    go_wp2_with (at_lookup;refine wpList_lookup_own_ok_int _ rfl _ _ 214 rfl 219 3 .i64 law_pr Tryz.underlying214 Tryz.underlying3 (zero_intF _) m n D rfl HP.out.own _ _ (by rfl) (keyOf_pr (x:=(a,b)) ⟨hwa,hwb⟩) ?_;intro cv hv _;rw[HP.out.at_ _ ⟨hwa,hwb⟩,hl] at hv;injection hv with hv;injection hv with _ hv;subst hv;rw[HP.out.has _ ⟨hwa,hwb⟩,hl];dsimp only[Option.getD_none,Option.isSome_none])
    go_ret2;exact⟨rfl,B1.out⟩
 | false=>
  rw[p1] at H1;have q1:=of_decide_eq_false p1;rw[if_neg (fun h=>q1 h.1)]
  cases hg:Nf.hangul a with
  | false=>
   rw[hg] at HH;rw[if_neg (by simp)];clear q1 p1 hg
   go_enter Tryz.func149,Tryz.ntmps149
   go_wp2_with fail
   refine cq (H1.out _) ?_
   go_wp2_with fail
   refine cq (HH.out _) ?_
   go_wp2_with fail
   refine (HT.out _).mono ?_;rintro e w1 ⟨m,q,n,n',D,D',rfl,hp,hq,b1⟩;have HP:=hide hp;have B1:=hide b1;have hfl:=field_whole (.map (some m)) (.map (some q)) w1;clear hp hq b1
   cases hl:Nf.lookW (a,b) Nf.table with
   | some v=>
    go_wp2_with (at_lookup;refine wpList_lookup_own_ok_int _ rfl _ _ 214 rfl 219 3 .i64 law_pr Tryz.underlying214 Tryz.underlying3 (zero_intF _) m n D rfl HP.out.own _ _ (by rfl) (keyOf_pr (x:=(a,b)) ⟨hwa,hwb⟩) ?_;intro cv hv _;rw[HP.out.at_ _ ⟨hwa,hwb⟩,hl] at hv;injection hv with hv;injection hv with _ hv;subst hv;rw[HP.out.has _ ⟨hwa,hwb⟩,hl];dsimp only[Option.getD_some,Option.isSome_some])
    go_ret2;exact⟨rfl,B1.out⟩
   | none=>
    go_wp2_with (at_lookup;refine wpList_lookup_own_ok_int _ rfl _ _ 214 rfl 219 3 .i64 law_pr Tryz.underlying214 Tryz.underlying3 (zero_intF _) m n D rfl HP.out.own _ _ (by rfl) (keyOf_pr (x:=(a,b)) ⟨hwa,hwb⟩) ?_;intro cv hv _;rw[HP.out.at_ _ ⟨hwa,hwb⟩,hl] at hv;injection hv with hv;injection hv with _ hv;subst hv;rw[HP.out.has _ ⟨hwa,hwb⟩,hl];dsimp only[Option.getD_none,Option.isSome_none])
    go_ret2;exact⟨rfl,B1.out⟩
  | true=>
   rw[hg] at HH;have hr:=of_decide_eq_true hg;have hm:Int.tmod (a-44032) 28=(a-44032) % 28:=Int.tmod_eq_emod_of_nonneg (by omega)
   cases p2:decide ((a-44032) % 28=0) with
   | false=>
    have q2:=of_decide_eq_false p2;rw[if_neg (fun h=>q2 h.2.1)];obtain⟨t,ht⟩:∃t,(a-44032) % 28=t:=⟨_,rfl⟩;rw[ht] at hm q2;have ht2:0≤t∧t<28:=by omega
    clear q1 p1 hg hr p2 ht
    go_enter Tryz.func149,Tryz.ntmps149
    go_wp2_with fail
    refine cq (H1.out _) ?_
    go_wp2_with fail
    refine cq (HH.out _) ?_
    go_wp2_with fail
    refine (HT.out _).mono ?_;rintro e w1 ⟨m,q,n,n',D,D',rfl,hp,hq,b1⟩;have HP:=hide hp;have B1:=hide b1;have hfl:=field_whole (.map (some m)) (.map (some q)) w1;clear hp hq b1
    cases hl:Nf.lookW (a,b) Nf.table with
    | some v=>
     go_wp2_with (at_lookup;refine wpList_lookup_own_ok_int _ rfl _ _ 214 rfl 219 3 .i64 law_pr Tryz.underlying214 Tryz.underlying3 (zero_intF _) m n D rfl HP.out.own _ _ (by rfl) (keyOf_pr (x:=(a,b)) ⟨hwa,hwb⟩) ?_;intro cv hv _;rw[HP.out.at_ _ ⟨hwa,hwb⟩,hl] at hv;injection hv with hv;injection hv with _ hv;subst hv;rw[HP.out.has _ ⟨hwa,hwb⟩,hl];dsimp only[Option.getD_some,Option.isSome_some])
     go_ret2;exact⟨rfl,B1.out⟩
    | none=>
     go_wp2_with (at_lookup;refine wpList_lookup_own_ok_int _ rfl _ _ 214 rfl 219 3 .i64 law_pr Tryz.underlying214 Tryz.underlying3 (zero_intF _) m n D rfl HP.out.own _ _ (by rfl) (keyOf_pr (x:=(a,b)) ⟨hwa,hwb⟩) ?_;intro cv hv _;rw[HP.out.at_ _ ⟨hwa,hwb⟩,hl] at hv;injection hv with hv;injection hv with _ hv;subst hv;rw[HP.out.has _ ⟨hwa,hwb⟩,hl];dsimp only[Option.getD_none,Option.isSome_none])
     go_ret2;exact⟨rfl,B1.out⟩
   | true=>
    have q2:=of_decide_eq_true p2;rw[q2] at hm
    cases p3:decide ((4520:Int)≤b∧b<4520+27) with
    | true=>
     rw[p3] at H3;have q3:=of_decide_eq_true p3;rw[if_pos ⟨rfl,q2,q3⟩];have e1:IntKind.i64.wrap (a+b)=a+b:=IntWalk.i64_in _ (by omega);have e2:IntKind.i64.wrap (a+b-4519)=a+b-4519:=IntWalk.i64_in _ (by omega);clear q1 p1 hg hr p2 q2 q3 p3
     go_enter Tryz.func149,Tryz.ntmps149
     go_wp2_with fail
     refine cq (H1.out _) ?_
     go_wp2_with fail
     refine cq (HH.out _) ?_
     go_wp2_with fail
     refine cq (H3.out _) ?_
     go_wp2;go_ret2;exact⟨rfl,Below.refl _ _⟩
    | false=>
     rw[p3] at H3;have q3:=of_decide_eq_false p3;rw[if_neg (fun h=>q3 h.2.2)];clear q1 p1 hg hr p2 q2 q3 p3
     go_enter Tryz.func149,Tryz.ntmps149
     go_wp2_with fail
     refine cq (H1.out _) ?_
     go_wp2_with fail
     refine cq (HH.out _) ?_
     go_wp2_with fail
     refine cq (H3.out _) ?_
     go_wp2_with fail
     refine (HT.out _).mono ?_;rintro e w1 ⟨m,q,n,n',D,D',rfl,hp,hq,b1⟩;have HP:=hide hp;have B1:=hide b1;have hfl:=field_whole (.map (some m)) (.map (some q)) w1;clear hp hq b1
     cases hl:Nf.lookW (a,b) Nf.table with
     | some v=>
      go_wp2_with (at_lookup;refine wpList_lookup_own_ok_int _ rfl _ _ 214 rfl 219 3 .i64 law_pr Tryz.underlying214 Tryz.underlying3 (zero_intF _) m n D rfl HP.out.own _ _ (by rfl) (keyOf_pr (x:=(a,b)) ⟨hwa,hwb⟩) ?_;intro cv hv _;rw[HP.out.at_ _ ⟨hwa,hwb⟩,hl] at hv;injection hv with hv;injection hv with _ hv;subst hv;rw[HP.out.has _ ⟨hwa,hwb⟩,hl];dsimp only[Option.getD_some,Option.isSome_some])
      go_ret2;exact⟨rfl,B1.out⟩
     | none=>
      go_wp2_with (at_lookup;refine wpList_lookup_own_ok_int _ rfl _ _ 214 rfl 219 3 .i64 law_pr Tryz.underlying214 Tryz.underlying3 (zero_intF _) m n D rfl HP.out.own _ _ (by rfl) (keyOf_pr (x:=(a,b)) ⟨hwa,hwb⟩) ?_;intro cv hv _;rw[HP.out.at_ _ ⟨hwa,hwb⟩,hl] at hv;injection hv with hv;injection hv with _ hv;subst hv;rw[HP.out.has _ ⟨hwa,hwb⟩,hl];dsimp only[Option.getD_none,Option.isSome_none])
      go_ret2;exact⟨rfl,B1.out⟩
end
section
open Go.RowKit Go.WideShapes

namespace Nf
def Ok(r:Int):Prop:=0≤r∧r≤1114111
theorem table_ok:∀x∈table,(0≤x.1.1∧x.1.1≤1114111)∧(0≤x.1.2∧x.1.2≤1114111):=by decide +kernel
theorem doubles_ok:∀x∈doubles,0≤x.2∧x.2≤1114111:=by decide +kernel
theorem made_ok{r a b:Int}(h:made r=some (a,b)):Ok a∧Ok b:=by
 unfold made at h;unfold Ok
 split at h
 ·rename_i hh
  have hr:=of_decide_eq_true hh
  split at h
  ·cases h;omega
  cases h;omega
 split at h
 ·rename_i p hp
  cases h;exact table_ok _ (lookM_mem hp)
 rename_i hn
 obtain⟨x,hx,e⟩:=Option.map_eq_some_iff.1 h;cases e;exact⟨doubles_ok _ (lookD_mem hx),by omega⟩
theorem apart_ok:∀{n:Nat} {r:Int} {l:List Int},apart n r=some l→Ok r→∀x∈l,Ok x
 | 0,_,_,h,_=>by cases h
 | n+1,r,l,h,hr=>by
  rw[apart] at h
  split at h
  ·cases h;intro x hx;rw[List.mem_singleton] at hx;subst hx;exact hr
  rename_i a b hm
  obtain⟨ha,hb⟩:=made_ok hm
  split at h
  ·cases h
  rename_i la hla
  split at h
  ·cases h;exact apart_ok hla ha
  obtain⟨m,hm2,e⟩:=Option.map_eq_some_iff.1 h;subst e;intro x hx
  rcases List.mem_append.1 hx with hx|hx
  ·exact apart_ok hla ha x hx
  exact apart_ok hm2 hb x hx
theorem parts_ok{r:Int}(h:Ok r):∀x∈parts r,Ok x:=apart_ok (parts_is r) h
theorem apart_len:∀{n:Nat} {r:Int} {l:List Int},apart n r=some l→l.length≤2 ^ n
 | 0,_,_,h=>by cases h
 | n+1,r,l,h=>by
  have hp:0<2 ^ n:=Nat.two_pow_pos n;rw[apart] at h;rw[Nat.pow_succ]
  split at h
  ·cases h;simp;omega
  split at h
  ·cases h
  rename_i la hla
  have:=apart_len hla
  split at h
  ·cases h;omega
  obtain⟨m,hm2,e⟩:=Option.map_eq_some_iff.1 h;have:=apart_len hm2;subst e;rw[List.length_append];omega
theorem parts_len(r:Int):(parts r).length≤16:=apart_len (parts_is r)
end Nf
theorem intVs_app(a b:List Int):intVs (a++b)=intVs a++intVs b:=List.map_append ..
theorem intVs_len(a:List Int):(intVs a).length=a.length:=List.length_map ..
theorem intVs_one(l:List Int):∀u∈intVs l,u.oneCell'=true:=by
 intro u hu;obtain⟨b,_,rfl⟩:=List.mem_map.1 hu;rfl
structure Tn(base t b:Nat)(w w':World):Prop where
 os:w'.os=w.os
 tape:w'.tape=w.tape
 output:w'.output=w.output
 size:w.heap.size≤w'.heap.size
 block:∀k,k<w.heap.size→k≠b→¬(base≤k∧IsT w k t)→w'.heap[k]?=w.heap[k]?
section
variable {base t b:Nat} {w w1 w':World}
theorem Tn.refl(base t b:Nat)(w:World):Tn base t b w w:=⟨rfl,rfl,rfl,Nat.le_refl _,fun _ _ _ _=>rfl⟩
theorem Tn.trans(h:Tn base t b w w1)(k:Tn base t b w1 w'):Tn base t b w w':=by
 refine⟨k.os.trans h.os,k.tape.trans h.tape,k.output.trans h.output,Nat.le_trans h.size k.size,fun i hi hb hn=>?_⟩;have e:=h.block i hi hb hn;rw[k.block i (Nat.lt_of_lt_of_le hi h.size) hb ?_,e];rintro ⟨h1,cs,fr,h2⟩;exact hn ⟨h1,cs,fr,by rw[←e];exact h2⟩
theorem Tn.below{B:Nat}(h:Tn base t b w w')(hB:B≤base)(hb:B≤b)(hs:B≤w.heap.size):Below B w w' :=
 ⟨h.os,h.tape,h.output,h.size,fun k hk=>h.block k (by omega) (by omega) (fun hh=>by omega)⟩
theorem Tn.of_below(h:Below w.heap.size w w'):Tn base t b w w':=⟨h.os,h.tape,h.output,h.size,fun k hk _ _=>h.block k hk⟩
theorem Tn.setCell(h:Tn base t b w w1){p:Addr}(hp:p.block=b∨w.heap.size≤p.block)(u:Value):Tn base t b w (w1.setCell p u):=by
 refine⟨h.os,h.tape,h.output,by simpa[World.setCell] using h.size,fun k hk hb hn=>?_⟩;rw[Below.heap_setCell _ _ _ _ (by omega)];exact h.block k hk hb hn
theorem Tn.grown(h:Tn base t b w w1){row:Option Nat}(hg:w1.grownBy w' row)(hr:∀k,row=some k→base≤k∧IsT w1 k t):Tn base t b w w' :=
 h.trans ⟨hg.os,hg.tape,hg.output,hg.size,fun k h1 _ hn=>hg.block k h1 (fun e=>hn (hr k e.symm))⟩
end
structure TA(w:World)(base tb:Nat)(l:List Int)(A:Option Addr)(c:Nat):Prop where
 blk:Blk w tb 243 #[.slice A l.length c]
 own:w.ownsRow base 3 1 (.slice A l.length c) l.length (intVs l)
 base:base≤w.heap.size
theorem TA.ne{w:World}{base tb:Nat}{l:List Int}{A:Option Addr}{c:Nat}(h:TA w base tb l A c):(Value.slice A l.length c).ownBlock≠some tb:=own_blk_ne h.own h.blk (by decide)
theorem TA.go{w w':World}{base tb:Nat}{l:List Int}{A:Option Addr}{c:Nat}(h:TA w base tb l A c)(hb:Below w.heap.size w w'):TA w' base tb l A c :=
 ⟨h.blk.go hb,h.own.kept (grown_below hb none) (by cases hv:(Value.slice A l.length c).ownBlock with|none=>exact .inl rfl|some k=>exact .inr (by simp)),Nat.le_trans h.base hb.size⟩
theorem TA.next{w w':World}{base tb g cap:Nat}{l:List Int}{A:Option Addr}{c:Nat}{r:Int}(h:TA w base tb l A c)(ho:w'.ownsRow base 3 1 (.slice (some ⟨g,0,none⟩) (l.length+1) cap) (l.length+1) (intVs (l++[r])))(hg:w.grownBy w' (Value.slice A l.length c).ownBlock) :
  TA (w'.setCell ⟨tb,0,none⟩ (.slice (some ⟨g,0,none⟩) (l.length+1) cap)) base tb (l++[r]) (some ⟨g,0,none⟩) cap∧Tn base 3 tb w (w'.setCell ⟨tb,0,none⟩ (.slice (some ⟨g,0,none⟩) (l.length+1) cap)):=by
 have hk:Blk w' tb 243 #[.slice A l.length c]:=h.blk.grown hg (fun e=>h.ne e.symm);have hl:(l++[r]).length=l.length+1:=by simp
 have hne:tb≠g:=fun e=>by
  have:=own_isT ho g rfl;obtain⟨cs,fr,h2⟩:=this.2;subst e;unfold Blk at hk;rw[hk] at h2;injection h2 with h2
  injection h2 with _ h3
  exact absurd h3 (by decide)
 refine⟨⟨?_,?_,?_⟩,?_⟩
 ·have:=hk.set_ 0 (.slice (some ⟨g,0,none⟩) (l.length+1) cap);rw[hl]
  simpa using this
 ·rw[hl];exact ownsRow_setCell_other ho (by simp[Value.ownBlock];exact fun e=>hne e.symm) _
 ·simp only[World.setCell,Array.size_modify];exact Nat.le_trans h.base hg.size
 exact ((Tn.refl base 3 tb w).grown hg (own_isT h.own)).setCell (.inl rfl) _
theorem apart_any(base tb:Nat):∀(n:Nat) (r:Int) (l out:List Int) (A:Option Addr) (c:Nat) (w:World),Nf.apart n r=some l→Nf.Ok r→TA w base tb out A c→out.length+l.length≤100000000→
  Calls Tryz.prog 198 #[.pointer (some ⟨tb,0,none⟩),.int .i64 r] w fun e w'=>∃A' c',e=.returned (.tuple #[])∧TA w' base tb (out++l) A' c'∧Tn base 3 tb w w'
 | 0,_,_,_,_,_,_,h,_,_,_=>by cases h
 | n+1,r,l,out,A,c,w,h,hr,ht,hn=>by
  have HM:=hide (fun W=>made_any r W hr.1 hr.2);have HT:=hide ht;clear ht;rw[Nf.apart] at h;unfold madeV at HM
  cases hm:Nf.made r with
  | none=>
   rw[hm] at h HM;cases h;dsimp only at HM;simp only[List.length_singleton] at hn;clear hm
   go_enter Tryz.func198,Tryz.ntmps198
   go_wp2_with fail
   refine (HM.out _).mono ?_;rintro e w1 ⟨rfl,hb1⟩;have HT1:=hide (HT.out.go hb1);have HB1:=hide (Tn.of_below (base:=base) (t:=3) (b:=tb) hb1);clear hb1;have q0:=HT1.out.blk.cell 0;have qf:=HT1.out.blk.frozen 0
   go_wp2_with (at_builtin;go_loud (refine wpList_append_elem w1 rfl (.tmp 19) (.tmp 21) 166 rfl base (.int .i64 0) 1 8 Tryz.underlying166 info_int rfl (by omega) _ out.length (intVs out) rfl HT1.out.own rfl (by simp[Value.oneCell']) rfl (by unfold maxLen;omega) (by omega) HT1.out.base ?_);intro g cap w2 ho hg _ _ _;clear q0 qf;have hk2:=HT1.out.blk.grown hg (fun e=>HT1.out.ne e.symm);have q0:=hk2.cell 0;have qf:=hk2.frozen 0;have HN:=hide (HT1.out.next (r:=r) (by rw[intVs_app];exact ho) hg);clear hk2 ho hg)
   (try simp only[Exit.inBlock,Exit.then]);refine bodyPost_ret (results_none rfl _ _ _) rfl ?_;exact⟨_,_,rfl,HN.out.1,HB1.out.trans HN.out.2⟩
  | some p=>
   obtain⟨a,b⟩:=p;rw[hm] at h HM;dsimp only at h HM;obtain⟨⟨a0,a1⟩,⟨b0,b1⟩⟩:=Nf.made_ok hm
   cases hla:Nf.apart n a with
   | none=>rw[hla] at h;cases h
   | some la=>
    rw[hla] at h;dsimp only at h
    by_cases hb:b=0
    ·subst hb;rw[if_pos rfl] at h;cases h;have IH:=hide (fun (W:World) (h:TA W base tb out A c)=>apart_any base tb n a l out A c W hla ⟨a0,a1⟩ h hn);clear hm hla
     go_enter Tryz.func198,Tryz.ntmps198
     go_wp2_with fail
     refine (HM.out _).mono ?_;rintro e w1 ⟨rfl,hb1⟩;have HT1:=hide (HT.out.go hb1);have HB1:=hide (Tn.of_below (base:=base) (t:=3) (b:=tb) hb1);clear hb1
     go_wp2_with fail
     refine (IH.out _ HT1.out).mono ?_;rintro e w2 ⟨A',c',rfl,ht2,hb2⟩;have HT2:=hide ht2;have HB2:=hide hb2;clear ht2 hb2;go_wp2;go_end0;exact⟨_,_,rfl,HT2.out,HB1.out.trans HB2.out⟩
    rw[if_neg hb] at h;obtain⟨lb,hlb,e⟩:=Option.map_eq_some_iff.1 h;subst e;rw[List.length_append] at hn;have IH:=hide (fun (W:World) (h:TA W base tb out A c)=>apart_any base tb n a la out A c W hla ⟨a0,a1⟩ h (by omega));have IH2:=hide (fun (A:Option Addr) (c:Nat) (W:World) (h:TA W base tb (out++la) A c)=>apart_any base tb n b lb (out++la) A c W hlb ⟨b0,b1⟩ h (by rw[List.length_append];omega));clear hm hla hlb h
    go_enter Tryz.func198,Tryz.ntmps198
    go_wp2_with fail
    refine (HM.out _).mono ?_;rintro e w1 ⟨rfl,hb1⟩;have HT1:=hide (HT.out.go hb1);have HB1:=hide (Tn.of_below (base:=base) (t:=3) (b:=tb) hb1);clear hb1
    go_wp2_with fail
    refine (IH.out _ HT1.out).mono ?_;rintro e w2 ⟨A',c',rfl,ht2,hb2⟩;have HT2:=hide ht2;have HB2:=hide hb2;clear ht2 hb2
    go_wp2_with fail
    refine (IH2.out _ _ _ HT2.out).mono ?_;rintro e w3 ⟨A3,c3,rfl,ht3,hb3⟩;have HT3:=hide ht3;have HB3:=hide hb3;clear ht3 hb3;go_wp2;go_end0;exact⟨_,_,rfl,by rw[←List.append_assoc];exact HT3.out,(HB1.out.trans HB2.out).trans HB3.out⟩
namespace Nf
def decomp(l:List Int):List Int:=l.flatMap parts
theorem decomp_len(l:List Int):(decomp l).length≤16*l.length:=by
 unfold decomp
 induction l with
 | nil=>simp
 | cons x l ih=>rw[List.flatMap_cons,List.length_append,List.length_cons];have:=parts_len x;omega
theorem decomp_next{l:List Int}{j:Nat}{a:Int}(h:l[j]?=some a):decomp (l.take (j+1))=decomp (l.take j)++parts a:=by
 unfold decomp;rw[List.take_add_one,h,List.flatMap_append];simp
end Nf
theorem decompose_any(l:List Int)(A:Option Addr)(c:Nat)(w:World)(hr:Reads w w.heap.size 1 A l.length (intVs l))(hok:∀x∈l,Nf.Ok x)(hn:l.length≤1000000) :
  Calls Tryz.prog 182 #[.slice A l.length c] w fun e w'=>∃A' c',e=.returned (.slice A' (Nf.decomp l).length c')∧w'.ownsRow w.heap.size 3 1 (.slice A' (Nf.decomp l).length c') (Nf.decomp l).length (intVs (Nf.decomp l))∧Below w.heap.size w w':=by
 have HR:=hide hr;have HOk:=hide hok;clear hr hok;obtain⟨N,hN⟩:∃N,l.length=N:=⟨_,rfl⟩;rw[hN] at hn HR ⊢;have HN:=hide hN;clear hN;have HW0:=hide (show TA (w.alloc (.cells #[.slice none 0 0] 243)) w.heap.size w.heap.size [] none 0 from⟨Blk.new _ _ _,World.ownsRow_nil _ _ _ _,by simp⟩);have HB0:=hide (below_alloc w (.cells #[.slice none 0 0] 243))
 go_enter Tryz.func182,Tryz.ntmps182
 go_wp2
 go_loopg [10] N (fun gk vk wr=>∃(j:Nat) (A':Option Addr) (c':Nat),gk=N-j∧j≤N∧vk=.int .i64 (j:Int)∧TA wr w.heap.size w.heap.size (Nf.decomp (l.take j)) A' c'∧Below w.heap.size w wr)
 case atStart=>exact⟨0,none,0,rfl,by omega,rfl,HW0.out,HB0.out⟩
 case round=>
  obtain⟨j,A',c',hgk,hj,rfl,ht,hb⟩:=hrel;have Hg:=hide hgk;have HT:=hide ht;have HB:=hide hb;clear hgk ht hb
  by_cases hlt:j<N
  ·obtain⟨a,ha⟩:∃a,l[j]?=some a:=⟨_,List.getElem?_eq_getElem (by rw[HN.out];exact hlt)⟩;obtain⟨gb,off,rfl,hgl,hcell⟩:=HR.out.2 (by omega);have y0:wr.cell? ⟨gb,off+j,none⟩=some (.int .i64 a):=(HB.out.cell hgl).trans (hcell j _ (by unfold intVs;rw[List.getElem?_map,ha];rfl));have HD:=hide (Nf.decomp_next ha);have hlen:=Nf.decomp_len (l.take (j+1))
   have hl2:(Nf.decomp (l.take j)).length+(Nf.parts a).length≤100000000:=by
    rw[←List.length_append,←HD.out];have:=List.length_take_le (j+1) l;have:=HN.out;omega
   have HA:=hide (fun (W:World) (h:TA W w.heap.size w.heap.size (Nf.decomp (l.take j)) A' c')=>apart_any w.heap.size w.heap.size 4 a _ _ A' c' W (Nf.parts_is a) (HOk.out a (List.mem_of_getElem? ha)) h hl2);clear hcell ha hlen hl2
   go_wp2_with fail
   refine (HA.out _ HT.out).mono ?_;rintro e w2 ⟨A2,c2,rfl,ht2,hb2⟩;have HT2:=hide ht2;have HB2:=hide hb2;clear ht2 hb2;go_wp2
   go_roundg (N-(j+1))
   case measure=>have:=Hg.out;omega
   case rel=>exact⟨j+1,A2,c2,rfl,by omega,by first|rfl|go_num,by rw[HD.out];exact HT2.out,HB.out.trans (HB2.out.below (Nat.le_refl _) (Nat.le_refl _) HT.out.base)⟩
  have hjN:j=N:=by omega
  subst hjN;have q0:=HT.out.blk.cell 0;go_wp2;go_ret;have hx:=HT.out;rw[List.take_of_length_le (by rw[HN.out];exact Nat.le_refl _)] at hx ⊢;exact⟨_,_,rfl,hx.own,HB.out⟩
theorem decomp_one(r:Int):Nf.decomp [r]=Nf.parts r:=by simp[Nf.decomp]
theorem parts_any(r:Int)(w:World)(hr:Nf.Ok r) :
  Calls Tryz.prog 152 #[.int .i64 r] w fun e w'=>∃A' c',e=.returned (.slice A' (Nf.parts r).length c')∧w'.ownsRow w.heap.size 3 1 (.slice A' (Nf.parts r).length c') (Nf.parts r).length (intVs (Nf.parts r))∧Below w.heap.size w w':=by
 have HD:=hide (decompose_any [r] (some ⟨w.heap.size,0,none⟩) 1 (w.alloc (.cells #[.int .i64 r] 3)) (reads_newI w [r]) (by intro x hx;rw[List.mem_singleton] at hx;subst hx;exact hr) (by simp));rw[decomp_one] at HD;have HB:=hide (below_alloc w (.cells #[.int .i64 r] 3))
 go_enter Tryz.func152,Tryz.ntmps152
 go_wp2_with fail
 refine HD.out.mono ?_;rintro e w2 ⟨A',c',rfl,ho,hb⟩;have HO:=hide ho;have HB2:=hide hb;clear ho hb;go_wp2;go_ret;exact⟨_,_,rfl,HO.out.mono (by simp),HB.out.trans (HB2.out.mono (by simp))⟩
end
section
namespace Nf
def Same(a b:List Int):Prop:=∀c,b.filter (fun x=>decide (cls x=c))=a.filter (fun x=>decide (cls x=c))
def Up(l:List Int):Prop:=l.Pairwise fun x y=>cls x≤cls y
theorem Same.refl(a:List Int):Same a a:=fun _=>rfl
theorem Same.trans{a b c:List Int}(h:Same a b)(k:Same b c):Same a c:=fun n=>(k n).trans (h n)
theorem Same.symm{a b:List Int}(h:Same a b):Same b a:=fun n=>(h n).symm
theorem Same.app{a b c d:List Int}(h:Same a b)(k:Same c d):Same (a++c) (b++d):=fun n=>by
 rw[List.filter_append,List.filter_append,h n,k n]
theorem Same.mem{a b:List Int}(h:Same a b)(x:Int):x∈b↔x∈a:=by
 have e:=h (cls x);have f:∀l:List Int,x∈l.filter (fun y=>decide (cls y=cls x))↔x∈l:=fun l=>by simp
 rw[←f b,e,f a]
theorem same_rot{u v:List Int}(h:∀x∈u,∀y∈v,cls x≠cls y):Same (u++v) (v++u):=fun n=>by
 rw[List.filter_append,List.filter_append]
 by_cases hu:u.filter (fun x=>decide (cls x=n))=[]
 ·rw[hu,List.nil_append,List.append_nil]
 have hv:v.filter (fun x=>decide (cls x=n))=[]:=by
  obtain⟨x,hx⟩:=List.exists_mem_of_ne_nil _ hu;rw[List.mem_filter] at hx;rw[List.filter_eq_nil_iff];intro y hy hc;exact h x hx.1 y hy ((of_decide_eq_true hx.2).trans (of_decide_eq_true hc).symm)
 rw[hv,List.nil_append,List.append_nil]
theorem up_uniq:∀{a b:List Int},Up a→Up b→Same a b→b=a
 | [],b,_,_,h=>by
  cases b with
  | nil=>rfl
  | cons y b=>exact absurd ((h.mem y).1 (List.mem_cons_self ..)) (by simp)
 | x :: a,b,ha,hb,h=>by
  cases b with
  | nil=>exact absurd ((h.mem x).2 (List.mem_cons_self ..)) (by simp)
  | cons y b=>
   unfold Up at ha hb;rw[List.pairwise_cons] at ha hb
   have h1:cls x≤cls y:=by
    rcases List.mem_cons.1 ((h.mem y).1 (List.mem_cons_self ..)) with e|hm
    ·rw[e];exact Int.le_refl _
    exact ha.1 _ hm
   have h2:cls y≤cls x:=by
    rcases List.mem_cons.1 ((h.mem x).2 (List.mem_cons_self ..)) with e|hm
    ·rw[e];exact Int.le_refl _
    exact hb.1 _ hm
   have he:cls x=cls y:=Int.le_antisymm h1 h2;have e:=h (cls x);rw[List.filter_cons,List.filter_cons,if_pos (by simp[he]),if_pos (by simp)] at e;injection e with exy _
   subst exy
   have:Same a b:=fun n=>by
    have e:=h n;rw[List.filter_cons,List.filter_cons] at e
    split at e
    ·injection e
    exact e
   rw[up_uniq ha.2 hb.2 this]
theorem ins_same(x:Int):∀l:List Int,Up l→Same (l++[x]) (ins x l)
 | [],_=>Same.refl _
 | y :: l,h=>by
  rw[ins];unfold Up at h;rw[List.pairwise_cons] at h;split
  ·rename_i hc
   have:Same ((y :: l)++[x]) ([x]++(y :: l)):=same_rot (by
    intro a ha b hb;rw[List.mem_singleton] at hb;subst hb
    rcases List.mem_cons.1 ha with rfl|ha
    ·omega
    have:=h.1 _ ha;omega)
   exact this
  exact (Same.refl [y]).app (ins_same x l h.2)
theorem ins_up(x:Int):∀l:List Int,Up l→Up (ins x l)
 | [],_=>by unfold ins Up;simp
 | y :: l,h=>by
  rw[ins];have h0:=h;unfold Up at h;rw[List.pairwise_cons] at h;split
  ·rename_i hc
   unfold Up;rw[List.pairwise_cons];refine⟨fun a ha=>?_,h0⟩
   rcases List.mem_cons.1 ha with rfl|ha
   ·omega
   have:=h.1 _ ha;omega
  rename_i hc
  unfold Up;rw[List.pairwise_cons];refine⟨fun a ha=>?_,ins_up x l h.2⟩;have:=((ins_same x l h.2).mem a).1 ha
  rcases List.mem_append.1 this with hm|hm
  ·exact h.1 _ hm
  rw[List.mem_singleton] at hm;subst hm;omega
theorem sortR_go:∀(l acc:List Int),Up acc→Up (l.foldl (fun acc x=>ins x acc) acc)∧Same (acc++l) (l.foldl (fun acc x=>ins x acc) acc)
 | [],acc,h=>⟨h,by rw[List.append_nil];exact Same.refl _⟩
 | x :: l,acc,h=>by
  obtain⟨h1,h2⟩:=sortR_go l (ins x acc) (ins_up x acc h);refine⟨h1,?_⟩;have:Same ((acc++[x])++l) (ins x acc++l):=(ins_same x acc h).app (Same.refl l);rw[List.append_assoc] at this;exact this.trans h2
theorem sortR_up(l:List Int):Up (sortR l):=(sortR_go l [] (by unfold Up;exact .nil)).1
theorem sortR_same(l:List Int):Same l (sortR l):=(sortR_go l [] (by unfold Up;exact .nil)).2
theorem sortR_is{l m:List Int}(h:Up m)(k:Same l m):m=sortR l:=up_uniq (sortR_up l) h ((sortR_same l).symm.trans k)
theorem Same.length{a b:List Int}(h:Same a b):b.length=a.length:=by
 have e:sortR b=sortR a:=up_uniq (sortR_up a) (sortR_up b) ((sortR_same a).symm.trans (h.trans (sortR_same b)))
 have ins_len:∀(x:Int) (l:List Int),(ins x l).length=l.length+1:=fun x l=>by
  induction l with
  | nil=>rfl
  | cons y l ih=>rw[ins];split<;>simp[ih]
 have go:∀(l acc:List Int),(l.foldl (fun acc x=>ins x acc) acc).length=acc.length+l.length:=fun l=>by
  induction l with
  | nil=>intro acc;rfl
  | cons x l ih=>intro acc;rw[List.foldl_cons,ih,ins_len,List.length_cons];omega
 have:=congrArg List.length e;unfold sortR at this;rw[go,go] at this
 simpa using this
theorem Up.app{a b:List Int}(ha:Up a)(hb:Up b)(h:∀x∈a,∀y∈b,cls x≤cls y):Up (a++b):=List.pairwise_append.2 ⟨ha,hb,h⟩
theorem Up.left{a b:List Int}(h:Up (a++b)):Up a:=(List.pairwise_append.1 h).1
theorem Up.right{a b:List Int}(h:Up (a++b)):Up b:=(List.pairwise_append.1 h).2.1
theorem Up.cross{a b:List Int}(h:Up (a++b)){x y:Int}(hx:x∈a)(hy:y∈b):cls x≤cls y:=(List.pairwise_append.1 h).2.2 x hx y hy
theorem Up.at_{l:List Int}(h:Up l){i j:Nat}{x y:Int}(hi:l[i]?=some x)(hj:l[j]?=some y)(hij:i≤j):cls x≤cls y:=by
 obtain⟨i1,e1⟩:=List.getElem?_eq_some_iff.1 hi;obtain⟨j1,e2⟩:=List.getElem?_eq_some_iff.1 hj
 rcases Nat.lt_or_eq_of_le hij with hlt|rfl
 ·have:=List.pairwise_iff_getElem.1 h i j i1 j1 hlt;rwa[e1,e2] at this
 rw[←e1,←e2];exact Int.le_refl _
theorem swap_at(P Q R:List Int)(x y:Int){i j:Nat}(hi:i=P.length)(hj:j=P.length+1+Q.length):((P++x :: (Q++y :: R)).set i y).set j x=P++y :: (Q++x :: R):=by
 subst hi;subst hj;rw[List.set_append_right _ _ (Nat.le_refl _),Nat.sub_self,List.set_cons_zero,List.set_append_right _ _ (by omega),show P.length+1+Q.length-P.length=Q.length+1 by omega,List.set_cons_succ,List.set_append_right _ _ (Nat.le_refl _),Nat.sub_self,List.set_cons_zero]
end Nf
end
end Go.Proofs.YtifiiojchlaghaaGreatDoor
