/- NFC: the doubles; what a scalar is made of. And more. -/
import Derived.Test.YtnbmfljhbpfilaaGreatDoorOw06
import Derived.Test.YtnbmfljhbpfilaaGreatDoorOw22
import Derived.Test.YtnbmfljhbpfilaaGreatDoorOw23
import Derived.OneCell
import Derived.Deep.Onto
set_option linter.unusedSimpArgs false
set_option maxRecDepth 100000
set_option maxHeartbeats 4000000
set_option linter.unusedVariables false
namespace Go.Proofs.YtnbmfljhbpfilaaGreatDoor
section
open Go.RowKit Go.WideShapes

theorem ana{H:Type}{P:Program}(w:World){ops:Array Oper}{rest:List Oper}{o:Oper}{a:Act}{Q:Exit→Act→World→Prop}
  (hg:o.guard=none) (m x v:Operand) (t:TypeId) (hop:o.op=Op.insert t m x v)
  (k e:TypeId) (K:Maps.Keyed P k) (ht:P.underlying t=some (.map k e)) (R:Value→Option (DataW H×List MemPlace)) (b n:Nat) (D:DataW H)
  (hm:a.eval m=.map (some b)) (hown:w.ownsMap P k R b n D) (hn:n<maxLen) (key val:Value) (kl:Lit) (hx:a.eval x=key) (hv:a.eval v=val) (hkey:keyOf P k key=some kl)
  (d:DataW H) (ps:List MemPlace) (hval:R val=some (d,ps))
  (hK:∀w',w'.ownsMap P k R b (n+1) (D.put kl d)→w.grownBy w' (some b)→wpList P ops Q rest (a.put o.dst undef) w') :
  wpList P ops Q (o :: rest) a w:=by
 refine wpList_plain hg fun K' hK'=>?_;obtain⟨w',hrun,r1,r2⟩:=hown.update K ht hn hkey hval;unfold Oper.wp;simp[execOp,hop,hm,hx,hv,hrun,Result.andThen];exact hK' _ _ (hK w' r1 r2)
structure DM(w:World)(b n:Nat)(l:List (Int×Int))(D:DataW Unit):Prop where
 own:w.ownsMap Tryz.prog 3 (plainElem Tryz.prog 3) b n D
 at_:∀r,D.atKey (.int .i64 r) (.lit (.int .i64 0))=.lit (.int .i64 ((Nf.jK r l).getD 0))
 has:∀r,Maps.has D (.int .i64 r)=(Nf.jK r l).isSome
def mP:DataW Unit:=(((((DataW.map []).put (.int .i64 832) (.lit (.int .i64 768))).put (.int .i64 833) (.lit (.int .i64 769))).put (.int .i64 8486) (.lit (.int .i64 937))).put (.int .i64 8490) (.lit (.int .i64 75))).put (.int .i64 8491) (.lit (.int .i64 197))
theorem JC(r:Int):mP.atKey (.int .i64 r) (.lit (.int .i64 0))=.lit (.int .i64 ((Nf.jK r Nf.j2).getD 0)):=by
 have hi:Maps.IsMap (H:=Unit) (.map []):=Maps.isMap_empty;unfold mP Nf.j2;simp only[Nf.jK]
 by_cases h5:r=8491
 ·subst h5;rw[Maps.atKey_put_same ((((hi.put _ _).put _ _).put _ _).put _ _) (by simp[WideAt.IsKeyLit])];rfl
 rw[Maps.atKey_put_other (by simpa using h5)]
 by_cases h4:r=8490
 ·subst h4;rw[Maps.atKey_put_same (((hi.put _ _).put _ _).put _ _) (by simp[WideAt.IsKeyLit])];rfl
 rw[Maps.atKey_put_other (by simpa using h4)]
 by_cases h3:r=8486
 ·subst h3;rw[Maps.atKey_put_same ((hi.put _ _).put _ _) (by simp[WideAt.IsKeyLit])];rfl
 rw[Maps.atKey_put_other (by simpa using h3)]
 by_cases h2:r=833
 ·subst h2;rw[Maps.atKey_put_same (hi.put _ _) (by simp[WideAt.IsKeyLit])];rfl
 rw[Maps.atKey_put_other (by simpa using h2)]
 by_cases h1:r=832
 ·subst h1;rw[Maps.atKey_put_same hi (by simp[WideAt.IsKeyLit])];rfl
 rw[Maps.atKey_put_other (by simpa using h1)];rw[if_neg (fun e=>h1 e.symm),if_neg (fun e=>h2 e.symm),if_neg (fun e=>h3 e.symm),if_neg (fun e=>h4 e.symm),if_neg (fun e=>h5 e.symm)];rfl
theorem acO(r:Int):Maps.has mP (.int .i64 r)=(Nf.jK r Nf.j2).isSome:=by
 have hi:Maps.IsMap (H:=Unit) (.map []):=Maps.isMap_empty;unfold mP Nf.j2;simp only[Nf.jK]
 by_cases h5:r=8491
 ·subst h5;rw[Maps.has_put_same ((((hi.put _ _).put _ _).put _ _).put _ _) (by simp[WideAt.IsKeyLit])];rfl
 rw[Maps.has_put_other (by simpa using h5)]
 by_cases h4:r=8490
 ·subst h4;rw[Maps.has_put_same (((hi.put _ _).put _ _).put _ _) (by simp[WideAt.IsKeyLit])];rfl
 rw[Maps.has_put_other (by simpa using h4)]
 by_cases h3:r=8486
 ·subst h3;rw[Maps.has_put_same ((hi.put _ _).put _ _) (by simp[WideAt.IsKeyLit])];rfl
 rw[Maps.has_put_other (by simpa using h3)]
 by_cases h2:r=833
 ·subst h2;rw[Maps.has_put_same (hi.put _ _) (by simp[WideAt.IsKeyLit])];rfl
 rw[Maps.has_put_other (by simpa using h2)]
 by_cases h1:r=832
 ·subst h1;rw[Maps.has_put_same hi (by simp[WideAt.IsKeyLit])];rfl
 rw[Maps.has_put_other (by simpa using h1)];rw[if_neg (fun e=>h1 e.symm),if_neg (fun e=>h2 e.symm),if_neg (fun e=>h3 e.symm),if_neg (fun e=>h4 e.symm),if_neg (fun e=>h5 e.symm)];rfl
theorem adb(w:World) :
  Calls Tryz.prog 217 #[] w fun e w'=>∃b n D,e=.returned (.map (some b))∧DM w' b n Nf.j2 D∧Below w.heap.size w w':=by
 have jk:=@run_makeMap Tryz.prog;have HO:=hide (World.ownsMap_made (H:=Unit) w Tryz.prog 3 (plainElem Tryz.prog 3));have HB:=hide (az w (.map #[] 0))
 go_enter Tryz.func217,Tryz.ntmps217
 go_wp2_with (refine (ana _ rfl _ _ _ 117 rfl 3 3 yg Tryz.underlying117 _ w.heap.size _ _ rfl HO.out (by decide) _ _ _ (by rfl) (by rfl) (Maps.keyOf_int_mk Tryz.underlying3 (by decide)) _ [] (plainElem_int Tryz.underlying3 (by decide)) ?_);clear HO;intro w1 hown hg;have HO:=hide hown;have ay:=hide (HB.out.grown hg HB.out.size (fun j hj=>by cases hj;exact Nat.le_refl _));clear HB hg hown;have HB:=ay;clear ay)
 go_ret;exact⟨w.heap.size,_,mP,rfl,⟨HO.out,JC,acO⟩,HB.out⟩
def vQ(r:Int):Value:=match Nf.made r with
 | some (a,b)=>.tuple #[.int .i64 a,.int .i64 b,.bool true]
 | none=>.tuple #[.int .i64 0,.int .i64 0,.bool false]
theorem Sq(x y:Value)(w:World):(Instr.field 233 (.agg #[x,y]) 1).run Tryz.prog w=.ok y w:=by kernel_rfl
theorem W9{x y:Int×Int}(h:nk x=nk y):x=y:=by
 unfold nk at h;simp only[DataW.agg.injEq,List.cons.injEq,DataW.lit.injEq,Lit.int.injEq,true_and,and_true] at h;exact Prod.ext h.1 h.2
theorem WI{v:Value}{ps:List MemPlace}{o:Option (Int×Int)}(hv:ry v=some ((o.map nk).getD (nk (0,0)),ps)):v=.agg #[.int .i64 (o.getD (0,0)).1,.int .i64 (o.getD (0,0)).2]:=by
 obtain⟨y,rfl,he⟩:=ais hv;have h1:=congrArg Prod.fst he
 have h2:o.getD (0,0)=y:=by
  cases o with
  | none=>exact W9 h1
  | some p=>exact W9 h1
 rw[h2];rfl
theorem Y2(w:World):(zeroValue 235).run Tryz.prog w=.ok (.agg #[.int .i64 0,.int .i64 0]) w:=by kernel_rfl
theorem mE(w:World):(zeroValue 3).run Tryz.prog w=.ok (.int .i64 0) w:=by kernel_rfl
theorem ahb(r:Int)(w:World)(h0:0≤r)(h1:r≤1114111) :
  Calls Tryz.prog 212 #[.int .i64 r] w fun e w'=>e=.returned (vQ r)∧Below w.heap.size w w':=by
 have HH:=hide (fun W=>TH r W);unfold vQ Nf.made
 cases hg:Nf.fX r with
 | true=>
  rw[hg] at HH;rw[if_pos rfl];have hr:=of_decide_eq_true hg;obtain⟨n,hn⟩:∃n:Nat,r=44032+n:=⟨(r-44032).toNat,by omega⟩;subst hn;have hw:IntKind.i64.wrap (44032+(n:Int)-44032)=(n:Int):=by rw[IntWalk.i64_in _ (by omega)];omega
  have hm:Int.tmod (n:Int) 28=((n % 28:Nat):Int):=by rw[Int.tmod_eq_emod_of_nonneg (by omega)];omega
  have e1:(44032+(n:Int)-0xAC00) % 28=((n % 28:Nat):Int):=by omega
  have e2:(44032+(n:Int)-0xAC00) / 28=((n / 28:Nat):Int):=by omega
  rw[e1,e2];obtain⟨t,ht⟩:∃t,n % 28=t:=⟨_,rfl⟩;rw[ht] at hm ⊢;have jn:t<28:=by omega
  by_cases hp:0<t
  ·rw[if_pos (by omega)];have fB:(0:Int)<(t:Int):=by omega
   have hq:=hr;clear hg hr e1 e2 ht
   go_enter Tryz.func212,Tryz.ntmps212
   go_wp2_with fail
   refine cq (HH.out _) ?_
   go_wp2;go_ret3;exact⟨rfl,Below.refl _ _⟩
  have E5:t=0:=by omega
  subst E5;rw[if_neg (by omega)];have hd:Int.tdiv (n:Int) 28=((n / 28:Nat):Int):=by rw[Int.tdiv_eq_ediv_of_nonneg (by omega)];omega
  obtain⟨k,hk⟩:∃k,n / 28=k:=⟨_,rfl⟩;rw[hk] at hd ⊢;have dW:k<400:=by omega
  have bg:Int.tdiv (k:Int) 21=((k / 21:Nat):Int):=by rw[Int.tdiv_eq_ediv_of_nonneg (by omega)];omega
  have er:Int.tmod (k:Int) 21=((k % 21:Nat):Int):=by rw[Int.tmod_eq_emod_of_nonneg (by omega)];omega
  have e3:(k:Int) / 21=((k / 21:Nat):Int):=by omega
  have e4:(k:Int) % 21=((k % 21:Nat):Int):=by omega
  rw[e3,e4];obtain⟨a,ha⟩:∃a,k / 21=a:=⟨_,rfl⟩;obtain⟨b,hb⟩:∃b,k % 21=b:=⟨_,rfl⟩;rw[ha] at bg ⊢;rw[hb] at er ⊢;have fW:a<20:=by omega
  have bt:b<21:=by omega
  clear hg hr e1 e2 e3 e4 ht hk ha hb
  go_enter Tryz.func212,Tryz.ntmps212
  go_wp2_with fail
  refine cq (HH.out _) ?_
  go_wp2;go_ret3;exact⟨rfl,Below.refl _ _⟩
 | false=>
  rw[hg] at HH;rw[if_neg (by simp)];have HT:=hide (fun W=>Yf W);have HD:=hide (fun W=>adb W);have hwr:(Lit.int .i64 r).wf=true:=WalkArith.wf_i64 (by omega)
  cases hm:Nf.eU r Nf.table with
  | some p=>
   obtain⟨pa,pb⟩:=p;clear hg
   go_enter Tryz.func212,Tryz.ntmps212
   go_wp2_with fail
   refine cq (HH.out _) ?_
   go_wp2_with fail
   refine (HT.out _).mono ?_;rintro e w1 ⟨m,q,n,n',D,D',rfl,hp,hq,b1⟩;have HQ:=hide hq;have B1:=hide b1;have sR:=Sq (.map (some m)) (.map (some q)) w1;clear hp hq b1
   go_wp2_with (at_lookup;go_loud (refine wpList_lookup_own_ok _ rfl _ _ 231 rfl 3 235 yg Tryz.underlying231 ry (Y2 _) (nk (0,0)) [] (ME (0,0)) q n' D' rfl HQ.out.own _ _ (by rfl) (Maps.keyOf_int_mk Tryz.underlying3 hwr) ?_);intro v ps hv;rw[HQ.out.at_,hm] at hv;have cS:=WI (o:=some (pa,pb)) hv;clear hv;subst cS;rw[HQ.out.has,hm];dsimp only[Option.getD_some,Option.isSome_some])
   go_wp2_with fail
   have B2:=hide (B1.out.trans ((az w1 (.cells #[.int .i64 pa,.int .i64 pb] 235)).mono B1.out.size));have hk:=ae.new w1 235 #[.int .i64 pa,.int .i64 pb];have c0:=hk.cell 0;have c1:=hk.cell 1;simp only[List.getElem?_toArray,List.getElem?_cons_zero,List.getElem?_cons_succ] at c0 c1;clear hk;generalize w1.alloc (.cells #[.int .i64 pa,.int .i64 pb] 235)=W at B2 c0 c1 ⊢
   go_region
   go_wp2;go_ret3;exact⟨rfl,B2.out.drew⟩
  | none=>
   clear hg
   go_enter Tryz.func212,Tryz.ntmps212
   go_wp2_with fail
   refine cq (HH.out _) ?_
   go_wp2_with fail
   refine (HT.out _).mono ?_;rintro e w1 ⟨m,q,n,n',D,D',rfl,hp,hq,b1⟩;have HQ:=hide hq;have B1:=hide b1;have sR:=Sq (.map (some m)) (.map (some q)) w1;clear hp hq b1
   go_wp2_with (at_lookup;go_loud (refine wpList_lookup_own_ok _ rfl _ _ 231 rfl 3 235 yg Tryz.underlying231 ry (Y2 _) (nk (0,0)) [] (ME (0,0)) q n' D' rfl HQ.out.own _ _ (by rfl) (Maps.keyOf_int_mk Tryz.underlying3 hwr) ?_);intro v ps hv;rw[HQ.out.at_,hm] at hv;have cS:=WI (o:=none) hv;clear hv;subst cS;rw[HQ.out.has,hm];dsimp only[Option.getD_none,Option.isSome_none])
   go_wp2_with fail
   refine (HD.out _).mono ?_;rintro e w2 ⟨b,nb,Db,rfl,hd,b2⟩;have wF:=hide hd;have B2:=hide ((B1.out.trans ((az w1 (.cells #[.int .i64 0,.int .i64 0] 235)).mono B1.out.size)).trans (b2.mono (by rw[World.size_alloc];exact Nat.le_succ_of_le B1.out.size)));clear hd b2
   cases aQ:Nf.jK r Nf.j2 with
   | some a0=>
    go_wp2_with (at_lookup;refine wpList_lookup_own_ok_int _ rfl _ _ 117 rfl 3 3 .i64 yg Tryz.underlying117 Tryz.underlying3 (mE _) b nb Db rfl wF.out.own _ _ (by rfl) (Maps.keyOf_int_mk Tryz.underlying3 hwr) ?_;intro cv hv _;rw[wF.out.at_,aQ] at hv;injection hv with hv;injection hv with _ hv;subst hv;rw[wF.out.has,aQ];dsimp only[Option.getD_some,Option.isSome_some])
    go_ret3;exact⟨rfl,B2.out⟩
   | none=>
    go_wp2_with (at_lookup;refine wpList_lookup_own_ok_int _ rfl _ _ 117 rfl 3 3 .i64 yg Tryz.underlying117 Tryz.underlying3 (mE _) b nb Db rfl wF.out.own _ _ (by rfl) (Maps.keyOf_int_mk Tryz.underlying3 hwr) ?_;intro cv hv _;rw[wF.out.at_,aQ] at hv;injection hv with hv;injection hv with _ hv;subst hv;rw[wF.out.has,aQ];dsimp only[Option.getD_none,Option.isSome_none])
    go_ret3;exact⟨rfl,B2.out⟩
end
section
open Go.RowKit Go.WideShapes

def jO(a b:Int):Value:=match Nf.whole a b with
 | some v=>.tuple #[.int .i64 v,.bool true]
 | none=>.tuple #[.int .i64 0,.bool false]
theorem DX(x y:Value)(w:World):(Instr.field 233 (.agg #[x,y]) 0).run Tryz.prog w=.ok x w:=by kernel_rfl
theorem amU(a b:Int)(w:World)(a0:0≤a)(a1:a≤1114111)(b0:0≤b)(b1:b≤1114111) :
  Calls Tryz.prog 171 #[.int .i64 a,.int .i64 b] w fun e w'=>e=.returned (jO a b)∧Below w.heap.size w w':=by
 have HH:=hide (fun W=>TH a W);have H1:=hide (fun W=>LZ a 4352 19 W (by decide));have H2:=hide (fun W=>LZ b 4449 21 W (by decide));have H3:=hide (fun W=>LZ b 4520 27 W (by decide));have HT:=hide (fun W=>Yf W);have dK:(Lit.int .i64 a).wf=true:=WalkArith.wf_i64 (by omega);have eE:(Lit.int .i64 b).wf=true:=WalkArith.wf_i64 (by omega);have lK:IntKind.i64.wrap (a-44032)=a-44032:=IntWalk.i64_in _ (by omega);unfold jO Nf.whole
 cases p1:decide ((4352:Int)≤a∧a<4352+19) with
 | true=>
  rw[p1] at H1;have q1:=of_decide_eq_true p1;have KW:Nf.fX a=false:=decide_eq_false (by omega);rw[KW] at HH
  cases p2:decide ((4449:Int)≤b∧b<4449+21) with
  | true=>
   rw[p2] at H2;have q2:=of_decide_eq_true p2;rw[if_pos ⟨q1,q2⟩];have e1:IntKind.i64.wrap (a-4352)=a-4352:=IntWalk.i64_in _ (by omega);have e2:IntKind.i64.wrap ((a-4352)*21)=(a-4352)*21:=IntWalk.i64_in _ (by omega);have e3:IntKind.i64.wrap ((a-4352)*21+b)=(a-4352)*21+b:=IntWalk.i64_in _ (by omega);have e4:IntKind.i64.wrap ((a-4352)*21+b-4449)=(a-4352)*21+b-4449:=IntWalk.i64_in _ (by omega);have e5:IntKind.i64.wrap (((a-4352)*21+b-4449)*28)=((a-4352)*21+b-4449)*28:=IntWalk.i64_in _ (by omega);have e6:IntKind.i64.wrap (44032+((a-4352)*21+b-4449)*28)=44032+((a-4352)*21+b-4449)*28:=IntWalk.i64_in _ (by omega);clear q1 q2 p1 p2
   go_enter Tryz.func171,Tryz.ntmps171
   go_wp2_with fail
   refine cq (H1.out _) ?_
   go_wp2_with fail
   refine cq (H2.out _) ?_
   go_wp2;go_ret2;exact⟨rfl,Below.refl _ _⟩
  | false=>
   rw[p2] at H2;have q2:=of_decide_eq_false p2;rw[if_neg (fun h=>q2 h.2),if_neg (by rw[KW];simp)];clear q1 q2 p1 p2 KW
   go_enter Tryz.func171,Tryz.ntmps171
   go_wp2_with fail
   refine cq (H1.out _) ?_
   go_wp2_with fail
   refine cq (H2.out _) ?_
   go_wp2_with fail
   refine cq (HH.out _) ?_
   go_wp2_with fail
   refine (HT.out _).mono ?_;rintro e w1 ⟨m,q,n,n',D,D',rfl,hp,hq,b1⟩;have HP:=hide hp;have B1:=hide b1;have sR:=DX (.map (some m)) (.map (some q)) w1;clear hp hq b1
   cases hl:Nf.lookW (a,b) Nf.table with
   | some v=>
    go_wp2_with (at_lookup;refine wpList_lookup_own_ok_int _ rfl _ _ 230 rfl 235 3 .i64 ow Tryz.underlying230 Tryz.underlying3 (mE _) m n D rfl HP.out.own _ _ (by rfl) (ot (x:=(a,b)) ⟨dK,eE⟩) ?_;intro cv hv _;rw[HP.out.at_ _ ⟨dK,eE⟩,hl] at hv;injection hv with hv;injection hv with _ hv;subst hv;rw[HP.out.has _ ⟨dK,eE⟩,hl];dsimp only[Option.getD_some,Option.isSome_some])
    go_ret2;exact⟨rfl,B1.out⟩
   | none=>
    go_wp2_with (at_lookup;refine wpList_lookup_own_ok_int _ rfl _ _ 230 rfl 235 3 .i64 ow Tryz.underlying230 Tryz.underlying3 (mE _) m n D rfl HP.out.own _ _ (by rfl) (ot (x:=(a,b)) ⟨dK,eE⟩) ?_;intro cv hv _;rw[HP.out.at_ _ ⟨dK,eE⟩,hl] at hv;injection hv with hv;injection hv with _ hv;subst hv;rw[HP.out.has _ ⟨dK,eE⟩,hl];dsimp only[Option.getD_none,Option.isSome_none])
    go_ret2;exact⟨rfl,B1.out⟩
 | false=>
  rw[p1] at H1;have q1:=of_decide_eq_false p1;rw[if_neg (fun h=>q1 h.1)]
  cases hg:Nf.fX a with
  | false=>
   rw[hg] at HH;rw[if_neg (by simp)];clear q1 p1 hg
   go_enter Tryz.func171,Tryz.ntmps171
   go_wp2_with fail
   refine cq (H1.out _) ?_
   go_wp2_with fail
   refine cq (HH.out _) ?_
   go_wp2_with fail
   refine (HT.out _).mono ?_;rintro e w1 ⟨m,q,n,n',D,D',rfl,hp,hq,b1⟩;have HP:=hide hp;have B1:=hide b1;have sR:=DX (.map (some m)) (.map (some q)) w1;clear hp hq b1
   cases hl:Nf.lookW (a,b) Nf.table with
   | some v=>
    go_wp2_with (at_lookup;refine wpList_lookup_own_ok_int _ rfl _ _ 230 rfl 235 3 .i64 ow Tryz.underlying230 Tryz.underlying3 (mE _) m n D rfl HP.out.own _ _ (by rfl) (ot (x:=(a,b)) ⟨dK,eE⟩) ?_;intro cv hv _;rw[HP.out.at_ _ ⟨dK,eE⟩,hl] at hv;injection hv with hv;injection hv with _ hv;subst hv;rw[HP.out.has _ ⟨dK,eE⟩,hl];dsimp only[Option.getD_some,Option.isSome_some])
    go_ret2;exact⟨rfl,B1.out⟩
   | none=>
    go_wp2_with (at_lookup;refine wpList_lookup_own_ok_int _ rfl _ _ 230 rfl 235 3 .i64 ow Tryz.underlying230 Tryz.underlying3 (mE _) m n D rfl HP.out.own _ _ (by rfl) (ot (x:=(a,b)) ⟨dK,eE⟩) ?_;intro cv hv _;rw[HP.out.at_ _ ⟨dK,eE⟩,hl] at hv;injection hv with hv;injection hv with _ hv;subst hv;rw[HP.out.has _ ⟨dK,eE⟩,hl];dsimp only[Option.getD_none,Option.isSome_none])
    go_ret2;exact⟨rfl,B1.out⟩
  | true=>
   rw[hg] at HH;have hr:=of_decide_eq_true hg;have hm:Int.tmod (a-44032) 28=(a-44032) % 28:=Int.tmod_eq_emod_of_nonneg (by omega)
   cases p2:decide ((a-44032) % 28=0) with
   | false=>
    have q2:=of_decide_eq_false p2;rw[if_neg (fun h=>q2 h.2.1)];obtain⟨t,ht⟩:∃t,(a-44032) % 28=t:=⟨_,rfl⟩;rw[ht] at hm q2;have jm:0≤t∧t<28:=by omega
    clear q1 p1 hg hr p2 ht
    go_enter Tryz.func171,Tryz.ntmps171
    go_wp2_with fail
    refine cq (H1.out _) ?_
    go_wp2_with fail
    refine cq (HH.out _) ?_
    go_wp2_with fail
    refine (HT.out _).mono ?_;rintro e w1 ⟨m,q,n,n',D,D',rfl,hp,hq,b1⟩;have HP:=hide hp;have B1:=hide b1;have sR:=DX (.map (some m)) (.map (some q)) w1;clear hp hq b1
    cases hl:Nf.lookW (a,b) Nf.table with
    | some v=>
     go_wp2_with (at_lookup;refine wpList_lookup_own_ok_int _ rfl _ _ 230 rfl 235 3 .i64 ow Tryz.underlying230 Tryz.underlying3 (mE _) m n D rfl HP.out.own _ _ (by rfl) (ot (x:=(a,b)) ⟨dK,eE⟩) ?_;intro cv hv _;rw[HP.out.at_ _ ⟨dK,eE⟩,hl] at hv;injection hv with hv;injection hv with _ hv;subst hv;rw[HP.out.has _ ⟨dK,eE⟩,hl];dsimp only[Option.getD_some,Option.isSome_some])
     go_ret2;exact⟨rfl,B1.out⟩
    | none=>
     go_wp2_with (at_lookup;refine wpList_lookup_own_ok_int _ rfl _ _ 230 rfl 235 3 .i64 ow Tryz.underlying230 Tryz.underlying3 (mE _) m n D rfl HP.out.own _ _ (by rfl) (ot (x:=(a,b)) ⟨dK,eE⟩) ?_;intro cv hv _;rw[HP.out.at_ _ ⟨dK,eE⟩,hl] at hv;injection hv with hv;injection hv with _ hv;subst hv;rw[HP.out.has _ ⟨dK,eE⟩,hl];dsimp only[Option.getD_none,Option.isSome_none])
     go_ret2;exact⟨rfl,B1.out⟩
   | true=>
    have q2:=of_decide_eq_true p2;rw[q2] at hm
    cases p3:decide ((4520:Int)≤b∧b<4520+27) with
    | true=>
     rw[p3] at H3;have q3:=of_decide_eq_true p3;rw[if_pos ⟨rfl,q2,q3⟩];have e1:IntKind.i64.wrap (a+b)=a+b:=IntWalk.i64_in _ (by omega);have e2:IntKind.i64.wrap (a+b-4519)=a+b-4519:=IntWalk.i64_in _ (by omega);clear q1 p1 hg hr p2 q2 q3 p3
     go_enter Tryz.func171,Tryz.ntmps171
     go_wp2_with fail
     refine cq (H1.out _) ?_
     go_wp2_with fail
     refine cq (HH.out _) ?_
     go_wp2_with fail
     refine cq (H3.out _) ?_
     go_wp2;go_ret2;exact⟨rfl,Below.refl _ _⟩
    | false=>
     rw[p3] at H3;have q3:=of_decide_eq_false p3;rw[if_neg (fun h=>q3 h.2.2)];clear q1 p1 hg hr p2 q2 q3 p3
     go_enter Tryz.func171,Tryz.ntmps171
     go_wp2_with fail
     refine cq (H1.out _) ?_
     go_wp2_with fail
     refine cq (HH.out _) ?_
     go_wp2_with fail
     refine cq (H3.out _) ?_
     go_wp2_with fail
     refine (HT.out _).mono ?_;rintro e w1 ⟨m,q,n,n',D,D',rfl,hp,hq,b1⟩;have HP:=hide hp;have B1:=hide b1;have sR:=DX (.map (some m)) (.map (some q)) w1;clear hp hq b1
     cases hl:Nf.lookW (a,b) Nf.table with
     | some v=>
      go_wp2_with (at_lookup;refine wpList_lookup_own_ok_int _ rfl _ _ 230 rfl 235 3 .i64 ow Tryz.underlying230 Tryz.underlying3 (mE _) m n D rfl HP.out.own _ _ (by rfl) (ot (x:=(a,b)) ⟨dK,eE⟩) ?_;intro cv hv _;rw[HP.out.at_ _ ⟨dK,eE⟩,hl] at hv;injection hv with hv;injection hv with _ hv;subst hv;rw[HP.out.has _ ⟨dK,eE⟩,hl];dsimp only[Option.getD_some,Option.isSome_some])
      go_ret2;exact⟨rfl,B1.out⟩
     | none=>
      go_wp2_with (at_lookup;refine wpList_lookup_own_ok_int _ rfl _ _ 230 rfl 235 3 .i64 ow Tryz.underlying230 Tryz.underlying3 (mE _) m n D rfl HP.out.own _ _ (by rfl) (ot (x:=(a,b)) ⟨dK,eE⟩) ?_;intro cv hv _;rw[HP.out.at_ _ ⟨dK,eE⟩,hl] at hv;injection hv with hv;injection hv with _ hv;subst hv;rw[HP.out.has _ ⟨dK,eE⟩,hl];dsimp only[Option.getD_none,Option.isSome_none])
      go_ret2;exact⟨rfl,B1.out⟩
end
section
open Go.RowKit Go.WideShapes

namespace Nf
def Ok(r:Int):Prop:=0≤r∧r≤1114111
theorem alP:∀x∈table,(0≤x.1.1∧x.1.1≤1114111)∧(0≤x.1.2∧x.1.2≤1114111):=by decide +kernel
theorem adf:∀x∈j2,0≤x.2∧x.2≤1114111:=by decide +kernel
theorem Mn{r a b:Int}(h:made r=some (a,b)):Ok a∧Ok b:=by
 unfold made at h;unfold Ok
 split at h
 ·rename_i hh
  have hr:=of_decide_eq_true hh
  split at h
  ·cases h;omega
  cases h;omega
 split at h
 ·rename_i p hp
  cases h;exact alP _ (yh hp)
 rename_i hn
 obtain⟨x,hx,e⟩:=Option.map_eq_some_iff.1 h;cases e;exact⟨adf _ (Fy hx),by omega⟩
theorem Ds:∀{n:Nat} {r:Int} {l:List Int},apart n r=some l→Ok r→∀x∈l,Ok x
 | 0,_,_,h,_=>by cases h
 | n+1,r,l,h,hr=>by
  rw[apart] at h
  split at h
  ·cases h;intro x hx;rw[List.mem_singleton] at hx;subst hx;exact hr
  rename_i a b hm
  obtain⟨ha,hb⟩:=Mn hm
  split at h
  ·cases h
  rename_i la dB
  split at h
  ·cases h;exact Ds dB ha
  obtain⟨m,er,e⟩:=Option.map_eq_some_iff.1 h;subst e;intro x hx
  rcases List.mem_append.1 hx with hx|hx
  ·exact Ds dB ha x hx
  exact Ds er hb x hx
theorem aiI{r:Int}(h:Ok r):∀x∈parts r,Ok x:=Ds (FM r) h
theorem zR:∀{n:Nat} {r:Int} {l:List Int},apart n r=some l→l.length≤2 ^ n
 | 0,_,_,h=>by cases h
 | n+1,r,l,h=>by
  have hp:0<2 ^ n:=Nat.two_pow_pos n;rw[apart] at h;rw[Nat.pow_succ]
  split at h
  ·cases h;simp;omega
  split at h
  ·cases h
  rename_i la dB
  have:=zR dB
  split at h
  ·cases h;omega
  obtain⟨m,er,e⟩:=Option.map_eq_some_iff.1 h;have:=zR er;subst e;rw[List.length_append];omega
theorem aiG(r:Int):(parts r).length≤16:=zR (FM r)
end Nf
theorem ic(a b:List Int):ar (a++b)=ar a++ar b:=List.map_append ..
theorem tB(a:List Int):(ar a).length=a.length:=List.length_map ..
theorem Fo(l:List Int):∀u∈ar l,u.oneCell'=true:=by
 intro u hu;obtain⟨b,_,rfl⟩:=List.mem_map.1 hu;rfl
structure Tn(base t b:Nat)(w w':World):Prop where
 os:w'.os=w.os
 tape:w'.tape=w.tape
 output:w'.output=w.output
 size:w.heap.size≤w'.heap.size
 block:∀k,k<w.heap.size→k≠b→¬(base≤k∧bO w k t)→w'.heap[k]?=w.heap[k]?
section
variable {base t b:Nat} {w w1 w':World}
theorem Tn.refl(base t b:Nat)(w:World):Tn base t b w w:=⟨rfl,rfl,rfl,Nat.le_refl _,fun _ _ _ _=>rfl⟩
theorem Tn.trans(h:Tn base t b w w1)(k:Tn base t b w1 w'):Tn base t b w w':=by
 refine⟨k.os.trans h.os,k.tape.trans h.tape,k.output.trans h.output,Nat.le_trans h.size k.size,fun i hi hb hn=>?_⟩;have e:=h.block i hi hb hn;rw[k.block i (Nat.lt_of_lt_of_le hi h.size) hb ?_,e];rintro ⟨h1,cs,fr,h2⟩;exact hn ⟨h1,cs,fr,by rw[←e];exact h2⟩
theorem Tn.below{B:Nat}(h:Tn base t b w w')(hB:B≤base)(hb:B≤b)(hs:B≤w.heap.size):Below B w w' :=
 ⟨h.os,h.tape,h.output,h.size,fun k hk=>h.block k (by omega) (by omega) (fun hh=>by omega)⟩
theorem Tn.bX(h:Below w.heap.size w w'):Tn base t b w w':=⟨h.os,h.tape,h.output,h.size,fun k hk _ _=>h.block k hk⟩
theorem Tn.setCell(h:Tn base t b w w1){p:Addr}(hp:p.block=b∨w.heap.size≤p.block)(u:Value):Tn base t b w (w1.setCell p u):=by
 refine⟨h.os,h.tape,h.output,by simpa[World.setCell] using h.size,fun k hk hb hn=>?_⟩;rw[Below.heap_setCell _ _ _ _ (by omega)];exact h.block k hk hb hn
theorem Tn.grown(h:Tn base t b w w1){row:Option Nat}(hg:w1.grownBy w' row)(hr:∀k,row=some k→base≤k∧bO w1 k t):Tn base t b w w' :=
 h.trans ⟨hg.os,hg.tape,hg.output,hg.size,fun k h1 _ hn=>hg.block k h1 (fun e=>hn (hr k e.symm))⟩
end
structure TA(w:World)(base tb:Nat)(l:List Int)(A:Option Addr)(c:Nat):Prop where
 blk:ae w tb 253 #[.slice A l.length c]
 own:w.ownsRow base 3 1 (.slice A l.length c) l.length (ar l)
 base:base≤w.heap.size
theorem TA.ne{w:World}{base tb:Nat}{l:List Int}{A:Option Addr}{c:Nat}(h:TA w base tb l A c):(Value.slice A l.length c).ownBlock≠some tb:=cU h.own h.blk (by decide)
theorem TA.go{w w':World}{base tb:Nat}{l:List Int}{A:Option Addr}{c:Nat}(h:TA w base tb l A c)(hb:Below w.heap.size w w'):TA w' base tb l A c :=
 ⟨h.blk.go hb,h.own.kept (cK hb none) (by cases hv:(Value.slice A l.length c).ownBlock with|none=>exact .inl rfl|some k=>exact .inr (by simp)),Nat.le_trans h.base hb.size⟩
theorem TA.next{w w':World}{base tb g cap:Nat}{l:List Int}{A:Option Addr}{c:Nat}{r:Int}(h:TA w base tb l A c)(ho:w'.ownsRow base 3 1 (.slice (some ⟨g,0,none⟩) (l.length+1) cap) (l.length+1) (ar (l++[r])))(hg:w.grownBy w' (Value.slice A l.length c).ownBlock) :
  TA (w'.setCell ⟨tb,0,none⟩ (.slice (some ⟨g,0,none⟩) (l.length+1) cap)) base tb (l++[r]) (some ⟨g,0,none⟩) cap∧Tn base 3 tb w (w'.setCell ⟨tb,0,none⟩ (.slice (some ⟨g,0,none⟩) (l.length+1) cap)):=by
 have hk:ae w' tb 253 #[.slice A l.length c]:=h.blk.grown hg (fun e=>h.ne e.symm);have hl:(l++[r]).length=l.length+1:=by simp
 have hne:tb≠g:=fun e=>by
  have:=aG ho g rfl;obtain⟨cs,fr,h2⟩:=this.2;subst e;unfold ae at hk;rw[hk] at h2;injection h2 with h2
  injection h2 with _ h3
  exact absurd h3 (by decide)
 refine⟨⟨?_,?_,?_⟩,?_⟩
 ·have:=hk.aI 0 (.slice (some ⟨g,0,none⟩) (l.length+1) cap);rw[hl]
  simpa using this
 ·rw[hl];exact ownsRow_setCell_other ho (by simp[Value.ownBlock];exact fun e=>hne e.symm) _
 ·simp only[World.setCell,Array.size_modify];exact Nat.le_trans h.base hg.size
 exact ((Tn.refl base 3 tb w).grown hg (aG h.own)).setCell (.inl rfl) _
theorem Dr(base tb:Nat):∀(n:Nat) (r:Int) (l out:List Int) (A:Option Addr) (c:Nat) (w:World),Nf.apart n r=some l→Nf.Ok r→TA w base tb out A c→out.length+l.length≤100000000→
  Calls Tryz.prog 202 #[.pointer (some ⟨tb,0,none⟩),.int .i64 r] w fun e w'=>∃A' c',e=.returned (.tuple #[])∧TA w' base tb (out++l) A' c'∧Tn base 3 tb w w'
 | 0,_,_,_,_,_,_,h,_,_,_=>by cases h
 | n+1,r,l,out,A,c,w,h,hr,ht,hn=>by
  have HM:=hide (fun W=>ahb r W hr.1 hr.2);have HT:=hide ht;clear ht;rw[Nf.apart] at h;unfold vQ at HM
  cases hm:Nf.made r with
  | none=>
   rw[hm] at h HM;cases h;dsimp only at HM;simp only[List.length_singleton] at hn;clear hm
   go_enter Tryz.func202,Tryz.ntmps202
   go_wp2_with fail
   refine (HM.out _).mono ?_;rintro e w1 ⟨rfl,aq⟩;have cg:=hide (HT.out.go aq);have ay:=hide (Tn.bX (base:=base) (t:=3) (b:=tb) aq);clear aq;have q0:=cg.out.blk.cell 0;have qf:=cg.out.blk.frozen 0
   go_wp2_with (at_builtin;go_loud (refine fG w1 rfl (.tmp 19) (.tmp 21) 124 rfl base (.int .i64 0) 1 8 Tryz.underlying124 fD rfl (by omega) _ out.length (ar out) rfl cg.out.own rfl (by simp[Value.oneCell']) rfl (by unfold maxLen;omega) (by omega) cg.out.base ?_);intro g cap w2 ho hg _ _ _;clear q0 qf;have cu:=cg.out.blk.grown hg (fun e=>cg.out.ne e.symm);have q0:=cu.cell 0;have qf:=cu.frozen 0;have HN:=hide (cg.out.next (r:=r) (by rw[ic];exact ho) hg);clear cu ho hg)
   (try simp only[Exit.inBlock,Exit.then]);refine bodyPost_ret (results_none rfl _ _ _) rfl ?_;exact⟨_,_,rfl,HN.out.1,ay.out.trans HN.out.2⟩
  | some p=>
   obtain⟨a,b⟩:=p;rw[hm] at h HM;dsimp only at h HM;obtain⟨⟨a0,a1⟩,⟨b0,b1⟩⟩:=Nf.Mn hm
   cases dB:Nf.apart n a with
   | none=>rw[dB] at h;cases h
   | some la=>
    rw[dB] at h;dsimp only at h
    by_cases hb:b=0
    ·subst hb;rw[if_pos rfl] at h;cases h;have IH:=hide (fun (W:World) (h:TA W base tb out A c)=>Dr base tb n a l out A c W dB ⟨a0,a1⟩ h hn);clear hm dB
     go_enter Tryz.func202,Tryz.ntmps202
     go_wp2_with fail
     refine (HM.out _).mono ?_;rintro e w1 ⟨rfl,aq⟩;have cg:=hide (HT.out.go aq);have ay:=hide (Tn.bX (base:=base) (t:=3) (b:=tb) aq);clear aq
     go_wp2_with fail
     refine (IH.out _ cg.out).mono ?_;rintro e w2 ⟨A',c',rfl,jm,af⟩;have kP:=hide jm;have ah:=hide af;clear jm af;go_wp2;go_end0;exact⟨_,_,rfl,kP.out,ay.out.trans ah.out⟩
    rw[if_neg hb] at h;obtain⟨lb,ki,e⟩:=Option.map_eq_some_iff.1 h;subst e;rw[List.length_append] at hn;have IH:=hide (fun (W:World) (h:TA W base tb out A c)=>Dr base tb n a la out A c W dB ⟨a0,a1⟩ h (by omega));have IQ:=hide (fun (A:Option Addr) (c:Nat) (W:World) (h:TA W base tb (out++la) A c)=>Dr base tb n b lb (out++la) A c W ki ⟨b0,b1⟩ h (by rw[List.length_append];omega));clear hm dB ki h
    go_enter Tryz.func202,Tryz.ntmps202
    go_wp2_with fail
    refine (HM.out _).mono ?_;rintro e w1 ⟨rfl,aq⟩;have cg:=hide (HT.out.go aq);have ay:=hide (Tn.bX (base:=base) (t:=3) (b:=tb) aq);clear aq
    go_wp2_with fail
    refine (IH.out _ cg.out).mono ?_;rintro e w2 ⟨A',c',rfl,jm,af⟩;have kP:=hide jm;have ah:=hide af;clear jm af
    go_wp2_with fail
    refine (IQ.out _ _ _ kP.out).mono ?_;rintro e w3 ⟨A3,c3,rfl,qX,aB⟩;have cj:=hide qX;have aw:=hide aB;clear qX aB;go_wp2;go_end0;exact⟨_,_,rfl,by rw[←List.append_assoc];exact cj.out,(ay.out.trans ah.out).trans aw.out⟩
namespace Nf
def bT(l:List Int):List Int:=l.flatMap parts
theorem xq(l:List Int):(bT l).length≤16*l.length:=by
 unfold bT
 induction l with
 | nil=>simp
 | cons x l ih=>rw[List.flatMap_cons,List.length_append,List.length_cons];have:=aiG x;omega
theorem JE{l:List Int}{j:Nat}{a:Int}(h:l[j]?=some a):bT (l.take (j+1))=bT (l.take j)++parts a:=by
 unfold bT;rw[List.take_add_one,h,List.flatMap_append];simp
end Nf
theorem ac5(l:List Int)(A:Option Addr)(c:Nat)(w:World)(hr:Reads w w.heap.size 1 A l.length (ar l))(bF:∀x∈l,Nf.Ok x)(hn:l.length≤1000000) :
  Calls Tryz.prog 192 #[.slice A l.length c] w fun e w'=>∃A' c',e=.returned (.slice A' (Nf.bT l).length c')∧w'.ownsRow w.heap.size 3 1 (.slice A' (Nf.bT l).length c') (Nf.bT l).length (ar (Nf.bT l))∧Below w.heap.size w w':=by
 have HR:=hide hr;have fO:=hide bF;clear hr bF;obtain⟨N,hN⟩:∃N,l.length=N:=⟨_,rfl⟩;rw[hN] at hn HR ⊢;have HN:=hide hN;clear hN;have HW0:=hide (show TA (w.alloc (.cells #[.slice none 0 0] 253)) w.heap.size w.heap.size [] none 0 from⟨ae.new _ _ _,World.ownsRow_nil _ _ _ _,by simp⟩);have kJ:=hide (az w (.cells #[.slice none 0 0] 253))
 go_enter Tryz.func192,Tryz.ntmps192
 go_wp2
 go_loopg [10] N (fun gk vk wr=>∃(j:Nat) (A':Option Addr) (c':Nat),gk=N-j∧j≤N∧vk=.int .i64 (j:Int)∧TA wr w.heap.size w.heap.size (Nf.bT (l.take j)) A' c'∧Below w.heap.size w wr)
 case atStart=>exact⟨0,none,0,rfl,by omega,rfl,HW0.out,kJ.out⟩
 case round=>
  obtain⟨j,A',c',au,hj,rfl,ht,hb⟩:=hrel;have Hg:=hide au;have HT:=hide ht;have HB:=hide hb;clear au ht hb
  by_cases hlt:j<N
  ·obtain⟨a,ha⟩:∃a,l[j]?=some a:=⟨_,List.getElem?_eq_getElem (by rw[HN.out];exact hlt)⟩;obtain⟨gb,off,rfl,dA,hcell⟩:=HR.out.2 (by omega);have y0:wr.cell? ⟨gb,off+j,none⟩=some (.int .i64 a):=(HB.out.cell dA).trans (hcell j _ (by unfold ar;rw[List.getElem?_map,ha];rfl));have HD:=hide (Nf.JE ha);have hlen:=Nf.xq (l.take (j+1))
   have mY:(Nf.bT (l.take j)).length+(Nf.parts a).length≤100000000:=by
    rw[←List.length_append,←HD.out];have:=List.length_take_le (j+1) l;have:=HN.out;omega
   have HA:=hide (fun (W:World) (h:TA W w.heap.size w.heap.size (Nf.bT (l.take j)) A' c')=>Dr w.heap.size w.heap.size 4 a _ _ A' c' W (Nf.FM a) (fO.out a (List.mem_of_getElem? ha)) h mY);clear hcell ha hlen mY
   go_wp2_with fail
   refine (HA.out _ HT.out).mono ?_;rintro e w2 ⟨A2,c2,rfl,jm,af⟩;have kP:=hide jm;have ah:=hide af;clear jm af;go_wp2
   go_roundg (N-(j+1))
   case measure=>have:=Hg.out;omega
   case rel=>exact⟨j+1,A2,c2,rfl,by omega,by first|rfl|go_num,by rw[HD.out];exact kP.out,HB.out.trans (ah.out.below (Nat.le_refl _) (Nat.le_refl _) HT.out.base)⟩
  have oc:j=N:=by omega
  subst oc;have q0:=HT.out.blk.cell 0;go_wp2;go_ret;have hx:=HT.out;rw[List.take_of_length_le (by rw[HN.out];exact Nat.le_refl _)] at hx ⊢;exact⟨_,_,rfl,hx.own,HB.out⟩
theorem ac4(r:Int):Nf.bT [r]=Nf.parts r:=by simp[Nf.bT]
theorem aiF(r:Int)(w:World)(hr:Nf.Ok r) :
  Calls Tryz.prog 174 #[.int .i64 r] w fun e w'=>∃A' c',e=.returned (.slice A' (Nf.parts r).length c')∧w'.ownsRow w.heap.size 3 1 (.slice A' (Nf.parts r).length c') (Nf.parts r).length (ar (Nf.parts r))∧Below w.heap.size w w':=by
 have HD:=hide (ac5 [r] (some ⟨w.heap.size,0,none⟩) 1 (w.alloc (.cells #[.int .i64 r] 3)) (Xh w [r]) (by intro x hx;rw[List.mem_singleton] at hx;subst hx;exact hr) (by simp));rw[ac4] at HD;have HB:=hide (az w (.cells #[.int .i64 r] 3))
 go_enter Tryz.func174,Tryz.ntmps174
 go_wp2_with fail
 refine HD.out.mono ?_;rintro e w2 ⟨A',c',rfl,ho,hb⟩;have HO:=hide ho;have ah:=hide hb;clear ho hb;go_wp2;go_ret;exact⟨_,_,rfl,HO.out.mono (by simp),HB.out.trans (ah.out.mono (by simp))⟩
end
section
namespace Nf
def b8(a b:List Int):Prop:=∀c,b.filter (fun x=>decide (cls x=c))=a.filter (fun x=>decide (cls x=c))
def Up(l:List Int):Prop:=l.Pairwise fun x y=>cls x≤cls y
theorem b8.refl(a:List Int):b8 a a:=fun _=>rfl
theorem b8.trans{a b c:List Int}(h:b8 a b)(k:b8 b c):b8 a c:=fun n=>(k n).trans (h n)
theorem b8.symm{a b:List Int}(h:b8 a b):b8 b a:=fun n=>(h n).symm
theorem b8.app{a b c d:List Int}(h:b8 a b)(k:b8 c d):b8 (a++c) (b++d):=fun n=>by
 rw[List.filter_append,List.filter_append,h n,k n]
theorem b8.mem{a b:List Int}(h:b8 a b)(x:Int):x∈b↔x∈a:=by
 have e:=h (cls x);have f:∀l:List Int,x∈l.filter (fun y=>decide (cls y=cls x))↔x∈l:=fun l=>by simp
 rw[←f b,e,f a]
theorem M0{u v:List Int}(h:∀x∈u,∀y∈v,cls x≠cls y):b8 (u++v) (v++u):=fun n=>by
 rw[List.filter_append,List.filter_append]
 by_cases hu:u.filter (fun x=>decide (cls x=n))=[]
 ·rw[hu,List.nil_append,List.append_nil]
 have hv:v.filter (fun x=>decide (cls x=n))=[]:=by
  obtain⟨x,hx⟩:=List.exists_mem_of_ne_nil _ hu;rw[List.mem_filter] at hx;rw[List.filter_eq_nil_iff];intro y hy hc;exact h x hx.1 y hy ((of_decide_eq_true hx.2).trans (of_decide_eq_true hc).symm)
 rw[hv,List.nil_append,List.append_nil]
theorem NP:∀{a b:List Int},Up a→Up b→b8 a b→b=a
 | [],b,_,_,h=>by
  cases b with
  | nil=>rfl
  | cons y b=>exact absurd ((h.mem y).1 (List.mem_cons_self ..)) (by simp)
 | x :: a,b,ha,hb,h=>by
  cases b with
  | nil=>exact absurd ((h.mem x).2 (List.mem_cons_self ..)) (by simp)
  | cons y b=>
   unfold Up at ha hb;rw[List.pairwise_cons] at ha hb
   have h1:cls x≤cls y:=by
    rcases List.mem_cons.1 ((h.mem y).1 (List.mem_cons_self ..)) with e|hm
    ·rw[e];exact Int.le_refl _
    exact ha.1 _ hm
   have h2:cls y≤cls x:=by
    rcases List.mem_cons.1 ((h.mem x).2 (List.mem_cons_self ..)) with e|hm
    ·rw[e];exact Int.le_refl _
    exact hb.1 _ hm
   have he:cls x=cls y:=Int.le_antisymm h1 h2;have e:=h (cls x);rw[List.filter_cons,List.filter_cons,if_pos (by simp[he]),if_pos (by simp)] at e;injection e with exy _
   subst exy
   have:b8 a b:=fun n=>by
    have e:=h n;rw[List.filter_cons,List.filter_cons] at e
    split at e
    ·injection e
    exact e
   rw[NP ha.2 hb.2 this]
theorem L9(x:Int):∀l:List Int,Up l→b8 (l++[x]) (ins x l)
 | [],_=>b8.refl _
 | y :: l,h=>by
  rw[ins];unfold Up at h;rw[List.pairwise_cons] at h;split
  ·rename_i hc
   have:b8 ((y :: l)++[x]) ([x]++(y :: l)):=M0 (by
    intro a ha b hb;rw[List.mem_singleton] at hb;subst hb
    rcases List.mem_cons.1 ha with rfl|ha
    ·omega
    have:=h.1 _ ha;omega)
   exact this
  exact (b8.refl [y]).app (L9 x l h.2)
theorem Vq(x:Int):∀l:List Int,Up l→Up (ins x l)
 | [],_=>by unfold ins Up;simp
 | y :: l,h=>by
  rw[ins];have h0:=h;unfold Up at h;rw[List.pairwise_cons] at h;split
  ·rename_i hc
   unfold Up;rw[List.pairwise_cons];refine⟨fun a ha=>?_,h0⟩
   rcases List.mem_cons.1 ha with rfl|ha
   ·omega
   have:=h.1 _ ha;omega
  rename_i hc
  unfold Up;rw[List.pairwise_cons];refine⟨fun a ha=>?_,Vq x l h.2⟩;have:=((L9 x l h.2).mem a).1 ha
  rcases List.mem_append.1 this with hm|hm
  ·exact h.1 _ hm
  rw[List.mem_singleton] at hm;subst hm;omega
theorem Nj:∀(l acc:List Int),Up acc→Up (l.foldl (fun acc x=>ins x acc) acc)∧b8 (acc++l) (l.foldl (fun acc x=>ins x acc) acc)
 | [],acc,h=>⟨h,by rw[List.append_nil];exact b8.refl _⟩
 | x :: l,acc,h=>by
  obtain⟨h1,h2⟩:=Nj l (ins x acc) (Vq x acc h);refine⟨h1,?_⟩;have:b8 ((acc++[x])++l) (ins x acc++l):=(L9 x acc h).app (b8.refl l);rw[List.append_assoc] at this;exact this.trans h2
theorem oI(l:List Int):Up (aA l):=(Nj l [] (by unfold Up;exact .nil)).1
theorem pK(l:List Int):b8 l (aA l):=(Nj l [] (by unfold Up;exact .nil)).2
theorem Cm{l m:List Int}(h:Up m)(k:b8 l m):m=aA l:=NP (oI l) h ((pK l).symm.trans k)
theorem b8.length{a b:List Int}(h:b8 a b):b.length=a.length:=by
 have e:aA b=aA a:=NP (oI a) (oI b) ((pK a).symm.trans (h.trans (pK b)))
 have agx:∀(x:Int) (l:List Int),(ins x l).length=l.length+1:=fun x l=>by
  induction l with
  | nil=>rfl
  | cons y l ih=>rw[ins];split<;>simp[ih]
 have go:∀(l acc:List Int),(l.foldl (fun acc x=>ins x acc) acc).length=acc.length+l.length:=fun l=>by
  induction l with
  | nil=>intro acc;rfl
  | cons x l ih=>intro acc;rw[List.foldl_cons,ih,agx,List.length_cons];omega
 have:=congrArg List.length e;unfold aA at this;rw[go,go] at this
 simpa using this
theorem Up.app{a b:List Int}(ha:Up a)(hb:Up b)(h:∀x∈a,∀y∈b,cls x≤cls y):Up (a++b):=List.pairwise_append.2 ⟨ha,hb,h⟩
theorem Up.left{a b:List Int}(h:Up (a++b)):Up a:=(List.pairwise_append.1 h).1
theorem Up.right{a b:List Int}(h:Up (a++b)):Up b:=(List.pairwise_append.1 h).2.1
theorem Up.DG{a b:List Int}(h:Up (a++b)){x y:Int}(hx:x∈a)(hy:y∈b):cls x≤cls y:=(List.pairwise_append.1 h).2.2 x hx y hy
theorem Up.at_{l:List Int}(h:Up l){i j:Nat}{x y:Int}(hi:l[i]?=some x)(hj:l[j]?=some y)(sV:i≤j):cls x≤cls y:=by
 obtain⟨i1,e1⟩:=List.getElem?_eq_some_iff.1 hi;obtain⟨j1,e2⟩:=List.getElem?_eq_some_iff.1 hj
 rcases Nat.lt_or_eq_of_le sV with hlt|rfl
 ·have:=List.pairwise_iff_getElem.1 h i j i1 j1 hlt;rwa[e1,e2] at this
 rw[←e1,←e2];exact Int.le_refl _
theorem Ya(P Q R:List Int)(x y:Int){i j:Nat}(hi:i=P.length)(hj:j=P.length+1+Q.length):((P++x :: (Q++y :: R)).set i y).set j x=P++y :: (Q++x :: R):=by
 subst hi;subst hj;rw[List.set_append_right _ _ (Nat.le_refl _),Nat.sub_self,List.set_cons_zero,List.set_append_right _ _ (by omega),show P.length+1+Q.length-P.length=Q.length+1 by omega,List.set_cons_succ,List.set_append_right _ _ (Nat.le_refl _),Nat.sub_self,List.set_cons_zero]
end Nf
end
end Go.Proofs.YtnbmfljhbpfilaaGreatDoor
