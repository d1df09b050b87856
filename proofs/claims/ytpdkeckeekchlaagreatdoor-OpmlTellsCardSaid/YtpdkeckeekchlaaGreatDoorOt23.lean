/- NFC: the doubles; what a scalar is made of. And more. -/
import Derived.Test.YtpdkeckeekchlaaGreatDoorOt22
import Derived.OneCell
set_option linter.unusedSimpArgs false
set_option maxRecDepth 100000
set_option maxHeartbeats 4000000
set_option linter.unusedVariables false
namespace Go.Proofs.YtpdkeckeekchlaaGreatDoor
section
open Go.RowKit Go.WideShapes

theorem anM{H:Type}{P:Program}(w:World){ops:Array Oper}{rest:List Oper}{o:Oper}{a:Act}{Q:Exit→Act→World→Prop}
  (hg:o.guard=none) (m x v:Operand) (t:TypeId) (hop:o.op=Op.insert t m x v)
  (k e:TypeId) (K:Maps.Keyed P k) (ht:P.underlying t=some (.map k e)) (R:Value→Option (DataW H×List MemPlace)) (b n:Nat) (D:DataW H)
  (hm:a.eval m=.map (some b)) (hown:w.ownsMap P k R b n D) (hn:n<maxLen) (key val:Value) (kl:Lit) (hx:a.eval x=key) (hv:a.eval v=val) (hkey:keyOf P k key=some kl)
  (d:DataW H) (ps:List MemPlace) (hval:R val=some (d,ps))
  (hK:∀w',w'.ownsMap P k R b (n+1) (D.put kl d)→w.grownBy w' (some b)→wpList P ops Q rest (a.put o.dst undef) w') :
  wpList P ops Q (o :: rest) a w:=by
 refine wpList_plain hg fun K' hK'=>?_;obtain⟨w',hrun,r1,r2⟩:=hown.update K ht hn hkey hval;unfold Oper.wp;simp[execOp,hop,hm,hx,hv,hrun,Result.andThen];exact hK' _ _ (hK w' r1 r2)
structure DM(w:World)(b n:Nat)(l:List (Int×Int))(D:DataW Unit):Prop where
 own:w.ownsMap Tryz.prog 3 (plainElem Tryz.prog 3) b n D
 at_:∀r,D.atKey (.int .i64 r) (.lit (.int .i64 0))=.lit (.int .i64 ((Nf.jQ r l).getD 0))
 has:∀r,Maps.has D (.int .i64 r)=(Nf.jQ r l).isSome
def np:DataW Unit:=(((((DataW.map []).put (.int .i64 832) (.lit (.int .i64 768))).put (.int .i64 833) (.lit (.int .i64 769))).put (.int .i64 8486) (.lit (.int .i64 937))).put (.int .i64 8490) (.lit (.int .i64 75))).put (.int .i64 8491) (.lit (.int .i64 197))
theorem Ka(r:Int):np.atKey (.int .i64 r) (.lit (.int .i64 0))=.lit (.int .i64 ((Nf.jQ r Nf.ki).getD 0)):=by
 have hi:Maps.IsMap (H:=Unit) (.map []):=Maps.isMap_empty;unfold np Nf.ki;simp only[Nf.jQ]
 by_cases h5:r=8491
 ·subst h5;rw[Maps.atKey_put_same ((((hi.put _ _).put _ _).put _ _).put _ _) (by simp[WideAt.IsKeyLit])];rfl
 rw[Maps.atKey_put_other (by simpa using h5)]
 by_cases h4:r=8490
 ·subst h4;rw[Maps.atKey_put_same (((hi.put _ _).put _ _).put _ _) (by simp[WideAt.IsKeyLit])];rfl
 rw[Maps.atKey_put_other (by simpa using h4)]
 by_cases h3:r=8486
 ·subst h3;rw[Maps.atKey_put_same ((hi.put _ _).put _ _) (by simp[WideAt.IsKeyLit])];rfl
 rw[Maps.atKey_put_other (by simpa using h3)]
 by_cases h2:r=833
 ·subst h2;rw[Maps.atKey_put_same (hi.put _ _) (by simp[WideAt.IsKeyLit])];rfl
 rw[Maps.atKey_put_other (by simpa using h2)]
 by_cases h1:r=832
 ·subst h1;rw[Maps.atKey_put_same hi (by simp[WideAt.IsKeyLit])];rfl
 rw[Maps.atKey_put_other (by simpa using h1)];rw[if_neg (fun e=>h1 e.symm),if_neg (fun e=>h2 e.symm),if_neg (fun e=>h3 e.symm),if_neg (fun e=>h4 e.symm),if_neg (fun e=>h5 e.symm)];rfl
theorem ada(r:Int):Maps.has np (.int .i64 r)=(Nf.jQ r Nf.ki).isSome:=by
 have hi:Maps.IsMap (H:=Unit) (.map []):=Maps.isMap_empty;unfold np Nf.ki;simp only[Nf.jQ]
 by_cases h5:r=8491
 ·subst h5;rw[Maps.has_put_same ((((hi.put _ _).put _ _).put _ _).put _ _) (by simp[WideAt.IsKeyLit])];rfl
 rw[Maps.has_put_other (by simpa using h5)]
 by_cases h4:r=8490
 ·subst h4;rw[Maps.has_put_same (((hi.put _ _).put _ _).put _ _) (by simp[WideAt.IsKeyLit])];rfl
 rw[Maps.has_put_other (by simpa using h4)]
 by_cases h3:r=8486
 ·subst h3;rw[Maps.has_put_same ((hi.put _ _).put _ _) (by simp[WideAt.IsKeyLit])];rfl
 rw[Maps.has_put_other (by simpa using h3)]
 by_cases h2:r=833
 ·subst h2;rw[Maps.has_put_same (hi.put _ _) (by simp[WideAt.IsKeyLit])];rfl
 rw[Maps.has_put_other (by simpa using h2)]
 by_cases h1:r=832
 ·subst h1;rw[Maps.has_put_same hi (by simp[WideAt.IsKeyLit])];rfl
 rw[Maps.has_put_other (by simpa using h1)];rw[if_neg (fun e=>h1 e.symm),if_neg (fun e=>h2 e.symm),if_neg (fun e=>h3 e.symm),if_neg (fun e=>h4 e.symm),if_neg (fun e=>h5 e.symm)];rfl
theorem adu(w:World) :
  Calls Tryz.prog 250 #[] w fun e w'=>∃b n D,e=.returned (.map (some b))∧DM w' b n Nf.ki D∧Below w.heap.size w w':=by
 have gD:=@run_makeMap Tryz.prog;have HO:=ap (World.ownsMap_made (H:=Unit) w Tryz.prog 3 (plainElem Tryz.prog 3));have HB:=ap (ay w (.map #[] 0))
 go_enter Tryz.func250,Tryz.ntmps250
 go_wp2_with (refine (anM _ rfl _ _ _ 150 rfl 3 3 yI Tryz.underlying150 _ w.heap.size _ _ rfl HO.o (by decide) _ _ _ (by rfl) (by rfl) (Maps.keyOf_int_mk Tryz.underlying3 (by decide)) _ [] (plainElem_int Tryz.underlying3 (by decide)) ?_);clear HO;intro w1 hown hg;have HO:=ap hown;have ax:=ap (HB.o.grown hg HB.o.size (fun j hj=>by cases hj;exact Nat.le_refl _));clear HB hg hown;have HB:=ax;clear ax)
 go_ret;exact⟨w.heap.size,_,np,rfl,⟨HO.o,Ka,ada⟩,HB.o⟩
def wQ(r:Int):Value:=match Nf.made r with
 | some (a,b)=>.tuple #[.int .i64 a,.int .i64 b,.bool true]
 | none=>.tuple #[.int .i64 0,.int .i64 0,.bool false]
theorem SR(x y:Value)(w:World):(Instr.field 264 (.agg #[x,y]) 1).run Tryz.prog w=.ok y w:=by kernel_rfl
theorem Xz{x y:Int×Int}(h:nS x=nS y):x=y:=by
 unfold nS at h;simp only[DataW.agg.injEq,List.cons.injEq,DataW.lit.injEq,Lit.int.injEq,true_and,and_true] at h;exact Prod.ext h.1 h.2
theorem Xk{v:Value}{ps:List MemPlace}{o:Option (Int×Int)}(hv:r7 v=some ((o.map nS).getD (nS (0,0)),ps)):v=.agg #[.int .i64 (o.getD (0,0)).1,.int .i64 (o.getD (0,0)).2]:=by
 obtain⟨y,rfl,he⟩:=aiU hv;have h1:=congrArg Prod.fst he
 have h2:o.getD (0,0)=y:=by
  cases o with
  | none=>exact Xz h1
  | some p=>exact Xz h1
 rw[h2];rfl
theorem Zt(w:World):(zeroValue 266).run Tryz.prog w=.ok (.agg #[.int .i64 0,.int .i64 0]) w:=by kernel_rfl
theorem mR(w:World):(zeroValue 3).run Tryz.prog w=.ok (.int .i64 0) w:=by kernel_rfl
theorem ahB(r:Int)(w:World)(h0:0≤r)(h1:r≤1114111) :
  Calls Tryz.prog 241 #[.int .i64 r] w fun e w'=>e=.returned (wQ r)∧Below w.heap.size w w':=by
 have HH:=ap (fun W=>Uf r W);unfold wQ Nf.made
 cases hg:Nf.gA r with
 | true=>
  rw[hg] at HH;rw[if_pos rfl];have hr:=of_decide_eq_true hg;obtain⟨n,hn⟩:∃n:Nat,r=44032+n:=⟨(r-44032).toNat,by omega⟩;subst hn;have hw:IntKind.i64.wrap (44032+(n:Int)-44032)=(n:Int):=by rw[IntWalk.i64_in _ (by omega)];omega
  have hm:Int.tmod (n:Int) 28=((n % 28:Nat):Int):=by rw[Int.tmod_eq_emod_of_nonneg (by omega)];omega
  have e1:(44032+(n:Int)-0xAC00) % 28=((n % 28:Nat):Int):=by omega
  have e2:(44032+(n:Int)-0xAC00) / 28=((n / 28:Nat):Int):=by omega
  rw[e1,e2];obtain⟨t,ht⟩:∃t,n % 28=t:=⟨_,rfl⟩;rw[ht] at hm ⊢;have jy:t<28:=by omega
  by_cases hp:0<t
  ·rw[if_pos (by omega)];have jK:(0:Int)<(t:Int):=by omega
   have hq:=hr;clear hg hr e1 e2 ht
   go_enter Tryz.func241,Tryz.ntmps241
   go_wp2_with fail
   refine cq (HH.o _) ?_
   go_wp2;go_ret3;exact⟨rfl,Below.refl _ _⟩
  have FJ:t=0:=by omega
  subst FJ;rw[if_neg (by omega)];have hd:Int.tdiv (n:Int) 28=((n / 28:Nat):Int):=by rw[Int.tdiv_eq_ediv_of_nonneg (by omega)];omega
  obtain⟨k,hk⟩:∃k,n / 28=k:=⟨_,rfl⟩;rw[hk] at hd ⊢;have eh:k<400:=by omega
  have bJ:Int.tdiv (k:Int) 21=((k / 21:Nat):Int):=by rw[Int.tdiv_eq_ediv_of_nonneg (by omega)];omega
  have eN:Int.tmod (k:Int) 21=((k % 21:Nat):Int):=by rw[Int.tmod_eq_emod_of_nonneg (by omega)];omega
  have e3:(k:Int) / 21=((k / 21:Nat):Int):=by omega
  have e4:(k:Int) % 21=((k % 21:Nat):Int):=by omega
  rw[e3,e4];obtain⟨a,ha⟩:∃a,k / 21=a:=⟨_,rfl⟩;obtain⟨b,hb⟩:∃b,k % 21=b:=⟨_,rfl⟩;rw[ha] at bJ ⊢;rw[hb] at eN ⊢;have iP:a<20:=by omega
  have bh:b<21:=by omega
  clear hg hr e1 e2 e3 e4 ht hk ha hb
  go_enter Tryz.func241,Tryz.ntmps241
  go_wp2_with fail
  refine cq (HH.o _) ?_
  go_wp2;go_ret3;exact⟨rfl,Below.refl _ _⟩
 | false=>
  rw[hg] at HH;rw[if_neg (by simp)];have HT:=ap (fun W=>YI W);have HD:=ap (fun W=>adu W);have hwr:(Lit.int .i64 r).wf=true:=WalkArith.wf_i64 (by omega)
  cases hm:Nf.fj r Nf.table with
  | some p=>
   obtain⟨pa,pb⟩:=p;clear hg
   go_enter Tryz.func241,Tryz.ntmps241
   go_wp2_with fail
   refine cq (HH.o _) ?_
   go_wp2_with fail
   refine (HT.o _).mono ?_;rintro e w1 ⟨m,q,n,n',D,D',rfl,hp,hq,b1⟩;have HQ:=ap hq;have B1:=ap b1;have tM:=SR (.map (some m)) (.map (some q)) w1;clear hp hq b1
   go_wp2_with (at_lookup;go_loud (refine wpList_lookup_own_ok _ rfl _ _ 262 rfl 3 266 yI Tryz.underlying262 r7 (Zt _) (nS (0,0)) [] (Nl (0,0)) q n' D' rfl HQ.o.own _ _ (by rfl) (Maps.keyOf_int_mk Tryz.underlying3 hwr) ?_);intro v ps hv;rw[HQ.o.at_,hm] at hv;have cQ:=Xk (o:=some (pa,pb)) hv;clear hv;subst cQ;rw[HQ.o.has,hm];dsimp only[Option.getD_some,Option.isSome_some])
   go_wp2_with fail
   have B2:=ap (B1.o.trans ((ay w1 (.cells #[.int .i64 pa,.int .i64 pb] 266)).mono B1.o.size));have hk:=ae.new w1 266 #[.int .i64 pa,.int .i64 pb];have c0:=hk.cell 0;have c1:=hk.cell 1;simp only[List.getElem?_toArray,List.getElem?_cons_zero,List.getElem?_cons_succ] at c0 c1;clear hk;generalize w1.alloc (.cells #[.int .i64 pa,.int .i64 pb] 266)=W at B2 c0 c1 ⊢
   go_region
   go_wp2;go_ret3;exact⟨rfl,B2.o.drew⟩
  | none=>
   clear hg
   go_enter Tryz.func241,Tryz.ntmps241
   go_wp2_with fail
   refine cq (HH.o _) ?_
   go_wp2_with fail
   refine (HT.o _).mono ?_;rintro e w1 ⟨m,q,n,n',D,D',rfl,hp,hq,b1⟩;have HQ:=ap hq;have B1:=ap b1;have tM:=SR (.map (some m)) (.map (some q)) w1;clear hp hq b1
   go_wp2_with (at_lookup;go_loud (refine wpList_lookup_own_ok _ rfl _ _ 262 rfl 3 266 yI Tryz.underlying262 r7 (Zt _) (nS (0,0)) [] (Nl (0,0)) q n' D' rfl HQ.o.own _ _ (by rfl) (Maps.keyOf_int_mk Tryz.underlying3 hwr) ?_);intro v ps hv;rw[HQ.o.at_,hm] at hv;have cQ:=Xk (o:=none) hv;clear hv;subst cQ;rw[HQ.o.has,hm];dsimp only[Option.getD_none,Option.isSome_none])
   go_wp2_with fail
   refine (HD.o _).mono ?_;rintro e w2 ⟨b,nb,Db,rfl,hd,b2⟩;have xp:=ap hd;have B2:=ap ((B1.o.trans ((ay w1 (.cells #[.int .i64 0,.int .i64 0] 266)).mono B1.o.size)).trans (b2.mono (by rw[World.size_alloc];exact Nat.le_succ_of_le B1.o.size)));clear hd b2
   cases aT:Nf.jQ r Nf.ki with
   | some a0=>
    go_wp2_with (at_lookup;refine wpList_lookup_own_ok_int _ rfl _ _ 150 rfl 3 3 .i64 yI Tryz.underlying150 Tryz.underlying3 (mR _) b nb Db rfl xp.o.own _ _ (by rfl) (Maps.keyOf_int_mk Tryz.underlying3 hwr) ?_;intro cv hv _;rw[xp.o.at_,aT] at hv;injection hv with hv;injection hv with _ hv;subst hv;rw[xp.o.has,aT];dsimp only[Option.getD_some,Option.isSome_some])
    go_ret3;exact⟨rfl,B2.o⟩
   | none=>
    go_wp2_with (at_lookup;refine wpList_lookup_own_ok_int _ rfl _ _ 150 rfl 3 3 .i64 yI Tryz.underlying150 Tryz.underlying3 (mR _) b nb Db rfl xp.o.own _ _ (by rfl) (Maps.keyOf_int_mk Tryz.underlying3 hwr) ?_;intro cv hv _;rw[xp.o.at_,aT] at hv;injection hv with hv;injection hv with _ hv;subst hv;rw[xp.o.has,aT];dsimp only[Option.getD_none,Option.isSome_none])
    go_ret3;exact⟨rfl,B2.o⟩
end
section
open Go.RowKit Go.WideShapes

def jW(a b:Int):Value:=match Nf.whole a b with
 | some v=>.tuple #[.int .i64 v,.bool true]
 | none=>.tuple #[.int .i64 0,.bool false]
theorem EO(x y:Value)(w:World):(Instr.field 264 (.agg #[x,y]) 0).run Tryz.prog w=.ok x w:=by kernel_rfl
theorem anx(a b:Int)(w:World)(a0:0≤a)(a1:a≤1114111)(b0:0≤b)(b1:b≤1114111) :
  Calls Tryz.prog 181 #[.int .i64 a,.int .i64 b] w fun e w'=>e=.returned (jW a b)∧Below w.heap.size w w':=by
 have HH:=ap (fun W=>Uf a W);have H1:=ap (fun W=>MC a 4352 19 W (by decide));have H2:=ap (fun W=>MC b 4449 21 W (by decide));have H3:=ap (fun W=>MC b 4520 27 W (by decide));have HT:=ap (fun W=>YI W);have dK:(Lit.int .i64 a).wf=true:=WalkArith.wf_i64 (by omega);have eO:(Lit.int .i64 b).wf=true:=WalkArith.wf_i64 (by omega);have jN:IntKind.i64.wrap (a-44032)=a-44032:=IntWalk.i64_in _ (by omega);unfold jW Nf.whole
 cases p1:decide ((4352:Int)≤a∧a<4352+19) with
 | true=>
  rw[p1] at H1;have q1:=of_decide_eq_true p1;have LG:Nf.gA a=false:=decide_eq_false (by omega);rw[LG] at HH
  cases p2:decide ((4449:Int)≤b∧b<4449+21) with
  | true=>
   rw[p2] at H2;have q2:=of_decide_eq_true p2;rw[if_pos ⟨q1,q2⟩];have e1:IntKind.i64.wrap (a-4352)=a-4352:=IntWalk.i64_in _ (by omega);have e2:IntKind.i64.wrap ((a-4352)*21)=(a-4352)*21:=IntWalk.i64_in _ (by omega);have e3:IntKind.i64.wrap ((a-4352)*21+b)=(a-4352)*21+b:=IntWalk.i64_in _ (by omega);have e4:IntKind.i64.wrap ((a-4352)*21+b-4449)=(a-4352)*21+b-4449:=IntWalk.i64_in _ (by omega);have e5:IntKind.i64.wrap (((a-4352)*21+b-4449)*28)=((a-4352)*21+b-4449)*28:=IntWalk.i64_in _ (by omega);have e6:IntKind.i64.wrap (44032+((a-4352)*21+b-4449)*28)=44032+((a-4352)*21+b-4449)*28:=IntWalk.i64_in _ (by omega);clear q1 q2 p1 p2
   go_enter Tryz.func181,Tryz.ntmps181
   go_wp2_with fail
   refine cq (H1.o _) ?_
   go_wp2_with fail
   refine cq (H2.o _) ?_
   go_wp2;go_ret2;exact⟨rfl,Below.refl _ _⟩
  | false=>
   rw[p2] at H2;have q2:=of_decide_eq_false p2;rw[if_neg (fun h=>q2 h.2),if_neg (by rw[LG];simp)];clear q1 q2 p1 p2 LG
   go_enter Tryz.func181,Tryz.ntmps181
   go_wp2_with fail
   refine cq (H1.o _) ?_
   go_wp2_with fail
   refine cq (H2.o _) ?_
   go_wp2_with fail
   refine cq (HH.o _) ?_
   go_wp2_with fail
   refine (HT.o _).mono ?_;rintro e w1 ⟨m,q,n,n',D,D',rfl,hp,hq,b1⟩;have HP:=ap hp;have B1:=ap b1;have tM:=EO (.map (some m)) (.map (some q)) w1;clear hp hq b1
   cases hl:Nf.lookW (a,b) Nf.table with
   | some v=>
    go_wp2_with (at_lookup;refine wpList_lookup_own_ok_int _ rfl _ _ 261 rfl 266 3 .i64 oX Tryz.underlying261 Tryz.underlying3 (mR _) m n D rfl HP.o.own _ _ (by rfl) (oW (x:=(a,b)) ⟨dK,eO⟩) ?_;intro cv hv _;rw[HP.o.at_ _ ⟨dK,eO⟩,hl] at hv;injection hv with hv;injection hv with _ hv;subst hv;rw[HP.o.has _ ⟨dK,eO⟩,hl];dsimp only[Option.getD_some,Option.isSome_some])
    go_ret2;exact⟨rfl,B1.o⟩
   | none=>
    go_wp2_with (at_lookup;refine wpList_lookup_own_ok_int _ rfl _ _ 261 rfl 266 3 .i64 oX Tryz.underlying261 Tryz.underlying3 (mR _) m n D rfl HP.o.own _ _ (by rfl) (oW (x:=(a,b)) ⟨dK,eO⟩) ?_;intro cv hv _;rw[HP.o.at_ _ ⟨dK,eO⟩,hl] at hv;injection hv with hv;injection hv with _ hv;subst hv;rw[HP.o.has _ ⟨dK,eO⟩,hl];dsimp only[Option.getD_none,Option.isSome_none])
    go_ret2;exact⟨rfl,B1.o⟩
 | false=>
  rw[p1] at H1;have q1:=of_decide_eq_false p1;rw[if_neg (fun h=>q1 h.1)]
  cases hg:Nf.gA a with
  | false=>
   rw[hg] at HH;rw[if_neg (by simp)];clear q1 p1 hg
   go_enter Tryz.func181,Tryz.ntmps181
   go_wp2_with fail
   refine cq (H1.o _) ?_
   go_wp2_with fail
   refine cq (HH.o _) ?_
   go_wp2_with fail
   refine (HT.o _).mono ?_;rintro e w1 ⟨m,q,n,n',D,D',rfl,hp,hq,b1⟩;have HP:=ap hp;have B1:=ap b1;have tM:=EO (.map (some m)) (.map (some q)) w1;clear hp hq b1
   cases hl:Nf.lookW (a,b) Nf.table with
   | some v=>
    go_wp2_with (at_lookup;refine wpList_lookup_own_ok_int _ rfl _ _ 261 rfl 266 3 .i64 oX Tryz.underlying261 Tryz.underlying3 (mR _) m n D rfl HP.o.own _ _ (by rfl) (oW (x:=(a,b)) ⟨dK,eO⟩) ?_;intro cv hv _;rw[HP.o.at_ _ ⟨dK,eO⟩,hl] at hv;injection hv with hv;injection hv with _ hv;subst hv;rw[HP.o.has _ ⟨dK,eO⟩,hl];dsimp only[Option.getD_some,Option.isSome_some])
    go_ret2;exact⟨rfl,B1.o⟩
   | none=>
    go_wp2_with (at_lookup;refine wpList_lookup_own_ok_int _ rfl _ _ 261 rfl 266 3 .i64 oX Tryz.underlying261 Tryz.underlying3 (mR _) m n D rfl HP.o.own _ _ (by rfl) (oW (x:=(a,b)) ⟨dK,eO⟩) ?_;intro cv hv _;rw[HP.o.at_ _ ⟨dK,eO⟩,hl] at hv;injection hv with hv;injection hv with _ hv;subst hv;rw[HP.o.has _ ⟨dK,eO⟩,hl];dsimp only[Option.getD_none,Option.isSome_none])
    go_ret2;exact⟨rfl,B1.o⟩
  | true=>
   rw[hg] at HH;have hr:=of_decide_eq_true hg;have hm:Int.tmod (a-44032) 28=(a-44032) % 28:=Int.tmod_eq_emod_of_nonneg (by omega)
   cases p2:decide ((a-44032) % 28=0) with
   | false=>
    have q2:=of_decide_eq_false p2;rw[if_neg (fun h=>q2 h.2.1)];obtain⟨t,ht⟩:∃t,(a-44032) % 28=t:=⟨_,rfl⟩;rw[ht] at hm q2;have fe:0≤t∧t<28:=by omega
    clear q1 p1 hg hr p2 ht
    go_enter Tryz.func181,Tryz.ntmps181
    go_wp2_with fail
    refine cq (H1.o _) ?_
    go_wp2_with fail
    refine cq (HH.o _) ?_
    go_wp2_with fail
    refine (HT.o _).mono ?_;rintro e w1 ⟨m,q,n,n',D,D',rfl,hp,hq,b1⟩;have HP:=ap hp;have B1:=ap b1;have tM:=EO (.map (some m)) (.map (some q)) w1;clear hp hq b1
    cases hl:Nf.lookW (a,b) Nf.table with
    | some v=>
     go_wp2_with (at_lookup;refine wpList_lookup_own_ok_int _ rfl _ _ 261 rfl 266 3 .i64 oX Tryz.underlying261 Tryz.underlying3 (mR _) m n D rfl HP.o.own _ _ (by rfl) (oW (x:=(a,b)) ⟨dK,eO⟩) ?_;intro cv hv _;rw[HP.o.at_ _ ⟨dK,eO⟩,hl] at hv;injection hv with hv;injection hv with _ hv;subst hv;rw[HP.o.has _ ⟨dK,eO⟩,hl];dsimp only[Option.getD_some,Option.isSome_some])
     go_ret2;exact⟨rfl,B1.o⟩
    | none=>
     go_wp2_with (at_lookup;refine wpList_lookup_own_ok_int _ rfl _ _ 261 rfl 266 3 .i64 oX Tryz.underlying261 Tryz.underlying3 (mR _) m n D rfl HP.o.own _ _ (by rfl) (oW (x:=(a,b)) ⟨dK,eO⟩) ?_;intro cv hv _;rw[HP.o.at_ _ ⟨dK,eO⟩,hl] at hv;injection hv with hv;injection hv with _ hv;subst hv;rw[HP.o.has _ ⟨dK,eO⟩,hl];dsimp only[Option.getD_none,Option.isSome_none])
     go_ret2;exact⟨rfl,B1.o⟩
   | true=>
    have q2:=of_decide_eq_true p2;rw[q2] at hm
    cases p3:decide ((4520:Int)≤b∧b<4520+27) with
    | true=>
     rw[p3] at H3;have q3:=of_decide_eq_true p3;rw[if_pos ⟨rfl,q2,q3⟩];have e1:IntKind.i64.wrap (a+b)=a+b:=IntWalk.i64_in _ (by omega);have e2:IntKind.i64.wrap (a+b-4519)=a+b-4519:=IntWalk.i64_in _ (by omega);clear q1 p1 hg hr p2 q2 q3 p3
     go_enter Tryz.func181,Tryz.ntmps181
     go_wp2_with fail
     refine cq (H1.o _) ?_
     go_wp2_with fail
     refine cq (HH.o _) ?_
     go_wp2_with fail
     refine cq (H3.o _) ?_
     go_wp2;go_ret2;exact⟨rfl,Below.refl _ _⟩
    | false=>
     rw[p3] at H3;have q3:=of_decide_eq_false p3;rw[if_neg (fun h=>q3 h.2.2)];clear q1 p1 hg hr p2 q2 q3 p3
     go_enter Tryz.func181,Tryz.ntmps181
     go_wp2_with fail
     refine cq (H1.o _) ?_
     go_wp2_with fail
     refine cq (HH.o _) ?_
     go_wp2_with fail
     refine cq (H3.o _) ?_
     go_wp2_with fail
     refine (HT.o _).mono ?_;rintro e w1 ⟨m,q,n,n',D,D',rfl,hp,hq,b1⟩;have HP:=ap hp;have B1:=ap b1;have tM:=EO (.map (some m)) (.map (some q)) w1;clear hp hq b1
     cases hl:Nf.lookW (a,b) Nf.table with
     | some v=>
      go_wp2_with (at_lookup;refine wpList_lookup_own_ok_int _ rfl _ _ 261 rfl 266 3 .i64 oX Tryz.underlying261 Tryz.underlying3 (mR _) m n D rfl HP.o.own _ _ (by rfl) (oW (x:=(a,b)) ⟨dK,eO⟩) ?_;intro cv hv _;rw[HP.o.at_ _ ⟨dK,eO⟩,hl] at hv;injection hv with hv;injection hv with _ hv;subst hv;rw[HP.o.has _ ⟨dK,eO⟩,hl];dsimp only[Option.getD_some,Option.isSome_some])
      go_ret2;exact⟨rfl,B1.o⟩
     | none=>
      go_wp2_with (at_lookup;refine wpList_lookup_own_ok_int _ rfl _ _ 261 rfl 266 3 .i64 oX Tryz.underlying261 Tryz.underlying3 (mR _) m n D rfl HP.o.own _ _ (by rfl) (oW (x:=(a,b)) ⟨dK,eO⟩) ?_;intro cv hv _;rw[HP.o.at_ _ ⟨dK,eO⟩,hl] at hv;injection hv with hv;injection hv with _ hv;subst hv;rw[HP.o.has _ ⟨dK,eO⟩,hl];dsimp only[Option.getD_none,Option.isSome_none])
      go_ret2;exact⟨rfl,B1.o⟩
end
section
open Go.RowKit Go.WideShapes

namespace Nf
def Ok(r:Int):Prop:=0≤r∧r≤1114111
theorem amu:∀x∈table,(0≤x.1.1∧x.1.1≤1114111)∧(0≤x.1.2∧x.1.2≤1114111):=by decide +kernel
theorem adw:∀x∈ki,0≤x.2∧x.2≤1114111:=by decide +kernel
theorem MT{r a b:Int}(h:made r=some (a,b)):Ok a∧Ok b:=by
 unfold made at h;unfold Ok
 split at h
 ·rename_i hh
  have hr:=of_decide_eq_true hh
  split at h
  ·cases h;omega
  cases h;omega
 split at h
 ·rename_i p hp
  cases h;exact amu _ (yK hp)
 rename_i hn
 obtain⟨x,hx,e⟩:=Option.map_eq_some_iff.1 h;cases e;exact⟨adw _ (Gn hx),by omega⟩
theorem Ek:∀{n:Nat} {r:Int} {l:List Int},apart n r=some l→Ok r→∀x∈l,Ok x
 | 0,_,_,h,_=>by cases h
 | n+1,r,l,h,hr=>by
  rw[apart] at h
  split at h
  ·cases h;intro x hx;rw[List.mem_singleton] at hx;subst hx;exact hr
  rename_i a b hm
  obtain⟨ha,hb⟩:=MT hm
  split at h
  ·cases h
  rename_i la cn
  split at h
  ·cases h;exact Ek cn ha
  obtain⟨m,eN,e⟩:=Option.map_eq_some_iff.1 h;subst e;intro x hx
  rcases List.mem_append.1 hx with hx|hx
  ·exact Ek cn ha x hx
  exact Ek eN hb x hx
theorem ai7{r:Int}(h:Ok r):∀x∈parts r,Ok x:=Ek (GF r) h
theorem AD:∀{n:Nat} {r:Int} {l:List Int},apart n r=some l→l.length≤2 ^ n
 | 0,_,_,h=>by cases h
 | n+1,r,l,h=>by
  have hp:0<2 ^ n:=Nat.two_pow_pos n;rw[apart] at h;rw[Nat.pow_succ]
  split at h
  ·cases h;simp;omega
  split at h
  ·cases h
  rename_i la cn
  have:=AD cn
  split at h
  ·cases h;omega
  obtain⟨m,eN,e⟩:=Option.map_eq_some_iff.1 h;have:=AD eN;subst e;rw[List.length_append];omega
theorem ai5(r:Int):(parts r).length≤16:=AD (GF r)
end Nf
theorem iA(a b:List Int):aq (a++b)=aq a++aq b:=List.map_append ..
theorem ui(a:List Int):(aq a).length=a.length:=List.length_map ..
theorem F7(l:List Int):∀u∈aq l,u.oneCell'=true:=by
 intro u hu;obtain⟨b,_,rfl⟩:=List.mem_map.1 hu;rfl
structure Tn(base t b:Nat)(w w':World):Prop where
 os:w'.os=w.os
 tape:w'.tape=w.tape
 output:w'.output=w.output
 size:w.heap.size≤w'.heap.size
 block:∀k,k<w.heap.size→k≠b→¬(base≤k∧bN w k t)→w'.heap[k]?=w.heap[k]?
section
variable {base t b:Nat} {w w1 w':World}
theorem Tn.refl(base t b:Nat)(w:World):Tn base t b w w:=⟨rfl,rfl,rfl,Nat.le_refl _,fun _ _ _ _=>rfl⟩
theorem Tn.trans(h:Tn base t b w w1)(k:Tn base t b w1 w'):Tn base t b w w':=by
 refine⟨k.os.trans h.os,k.tape.trans h.tape,k.output.trans h.output,Nat.le_trans h.size k.size,fun i hi hb hn=>?_⟩;have e:=h.block i hi hb hn;rw[k.block i (Nat.lt_of_lt_of_le hi h.size) hb ?_,e];rintro ⟨h1,cs,fr,h2⟩;exact hn ⟨h1,cs,fr,by rw[←e];exact h2⟩
theorem Tn.below{B:Nat}(h:Tn base t b w w')(hB:B≤base)(hb:B≤b)(hs:B≤w.heap.size):Below B w w' :=
 ⟨h.os,h.tape,h.output,h.size,fun k hk=>h.block k (by omega) (by omega) (fun hh=>by omega)⟩
theorem Tn.b8(h:Below w.heap.size w w'):Tn base t b w w':=⟨h.os,h.tape,h.output,h.size,fun k hk _ _=>h.block k hk⟩
theorem Tn.setCell(h:Tn base t b w w1){p:Addr}(hp:p.block=b∨w.heap.size≤p.block)(u:Value):Tn base t b w (w1.setCell p u):=by
 refine⟨h.os,h.tape,h.output,by simpa[World.setCell] using h.size,fun k hk hb hn=>?_⟩;rw[Below.heap_setCell _ _ _ _ (by omega)];exact h.block k hk hb hn
theorem Tn.grown(h:Tn base t b w w1){row:Option Nat}(hg:w1.grownBy w' row)(hr:∀k,row=some k→base≤k∧bN w1 k t):Tn base t b w w' :=
 h.trans ⟨hg.os,hg.tape,hg.output,hg.size,fun k h1 _ hn=>hg.block k h1 (fun e=>hn (hr k e.symm))⟩
end
structure TA(w:World)(base tb:Nat)(l:List Int)(A:Option Addr)(c:Nat):Prop where
 blk:ae w tb 291 #[.slice A l.length c]
 own:w.ownsRow base 3 1 (.slice A l.length c) l.length (aq l)
 base:base≤w.heap.size
theorem TA.ne{w:World}{base tb:Nat}{l:List Int}{A:Option Addr}{c:Nat}(h:TA w base tb l A c):(Value.slice A l.length c).ownBlock≠some tb:=bR h.own h.blk (by decide)
theorem TA.go{w w':World}{base tb:Nat}{l:List Int}{A:Option Addr}{c:Nat}(h:TA w base tb l A c)(hb:Below w.heap.size w w'):TA w' base tb l A c :=
 ⟨h.blk.go hb,h.own.kept (cM hb none) (by cases hv:(Value.slice A l.length c).ownBlock with|none=>exact .inl rfl|some k=>exact .inr (by simp)),Nat.le_trans h.base hb.size⟩
theorem TA.next{w w':World}{base tb g cap:Nat}{l:List Int}{A:Option Addr}{c:Nat}{r:Int}(h:TA w base tb l A c)(ho:w'.ownsRow base 3 1 (.slice (some ⟨g,0,none⟩) (l.length+1) cap) (l.length+1) (aq (l++[r])))(hg:w.grownBy w' (Value.slice A l.length c).ownBlock) :
  TA (w'.setCell ⟨tb,0,none⟩ (.slice (some ⟨g,0,none⟩) (l.length+1) cap)) base tb (l++[r]) (some ⟨g,0,none⟩) cap∧Tn base 3 tb w (w'.setCell ⟨tb,0,none⟩ (.slice (some ⟨g,0,none⟩) (l.length+1) cap)):=by
 have hk:ae w' tb 291 #[.slice A l.length c]:=h.blk.grown hg (fun e=>h.ne e.symm);have hl:(l++[r]).length=l.length+1:=by simp
 have hne:tb≠g:=fun e=>by
  have:=aD ho g rfl;obtain⟨cs,fr,h2⟩:=this.2;subst e;unfold ae at hk;rw[hk] at h2;injection h2 with h2
  injection h2 with _ h3
  exact absurd h3 (by decide)
 refine⟨⟨?_,?_,?_⟩,?_⟩
 ·have:=hk.aH 0 (.slice (some ⟨g,0,none⟩) (l.length+1) cap);rw[hl]
  simpa using this
 ·rw[hl];exact ownsRow_setCell_other ho (by simp[Value.ownBlock];exact fun e=>hne e.symm) _
 ·simp only[World.setCell,Array.size_modify];exact Nat.le_trans h.base hg.size
 exact ((Tn.refl base 3 tb w).grown hg (aD h.own)).setCell (.inl rfl) _
theorem Ej(base tb:Nat):∀(n:Nat) (r:Int) (l out:List Int) (A:Option Addr) (c:Nat) (w:World),Nf.apart n r=some l→Nf.Ok r→TA w base tb out A c→out.length+l.length≤100000000→
  Calls Tryz.prog 233 #[.pointer (some ⟨tb,0,none⟩),.int .i64 r] w fun e w'=>∃A' c',e=.returned (.tuple #[])∧TA w' base tb (out++l) A' c'∧Tn base 3 tb w w'
 | 0,_,_,_,_,_,_,h,_,_,_=>by cases h
 | n+1,r,l,out,A,c,w,h,hr,ht,hn=>by
  have HM:=ap (fun W=>ahB r W hr.1 hr.2);have HT:=ap ht;clear ht;rw[Nf.apart] at h;unfold wQ at HM
  cases hm:Nf.made r with
  | none=>
   rw[hm] at h HM;cases h;dsimp only at HM;simp only[List.length_singleton] at hn;clear hm
   go_enter Tryz.func233,Tryz.ntmps233
   go_wp2_with fail
   refine (HM.o _).mono ?_;rintro e w1 ⟨rfl,ak⟩;have cA:=ap (HT.o.go ak);have ax:=ap (Tn.b8 (base:=base) (t:=3) (b:=tb) ak);clear ak;have q0:=cA.o.blk.cell 0;have qf:=cA.o.blk.frozen 0
   go_wp2_with (at_builtin;go_loud (refine et w1 rfl (.tmp 19) (.tmp 21) 164 rfl base (.int .i64 0) 1 8 Tryz.underlying164 fM rfl (by omega) _ out.length (aq out) rfl cA.o.own rfl (by simp[Value.oneCell']) rfl (by unfold maxLen;omega) (by omega) cA.o.base ?_);intro g cap w2 ho hg _ _ _;clear q0 qf;have bu:=cA.o.blk.grown hg (fun e=>cA.o.ne e.symm);have q0:=bu.cell 0;have qf:=bu.frozen 0;have HN:=ap (cA.o.next (r:=r) (by rw[iA];exact ho) hg);clear bu ho hg)
   (try simp only[Exit.inBlock,Exit.then]);refine bodyPost_ret (results_none rfl _ _ _) rfl ?_;exact⟨_,_,rfl,HN.o.1,ax.o.trans HN.o.2⟩
  | some p=>
   obtain⟨a,b⟩:=p;rw[hm] at h HM;dsimp only at h HM;obtain⟨⟨a0,a1⟩,⟨b0,b1⟩⟩:=Nf.MT hm
   cases cn:Nf.apart n a with
   | none=>rw[cn] at h;cases h
   | some la=>
    rw[cn] at h;dsimp only at h
    by_cases hb:b=0
    ·subst hb;rw[if_pos rfl] at h;cases h;have IH:=ap (fun (W:World) (h:TA W base tb out A c)=>Ej base tb n a l out A c W cn ⟨a0,a1⟩ h hn);clear hm cn
     go_enter Tryz.func233,Tryz.ntmps233
     go_wp2_with fail
     refine (HM.o _).mono ?_;rintro e w1 ⟨rfl,ak⟩;have cA:=ap (HT.o.go ak);have ax:=ap (Tn.b8 (base:=base) (t:=3) (b:=tb) ak);clear ak
     go_wp2_with fail
     refine (IH.o _ cA.o).mono ?_;rintro e w2 ⟨A',c',rfl,fe,af⟩;have kZ:=ap fe;have ag:=ap af;clear fe af;go_wp2;go_end0;exact⟨_,_,rfl,kZ.o,ax.o.trans ag.o⟩
    rw[if_neg hb] at h;obtain⟨lb,fc,e⟩:=Option.map_eq_some_iff.1 h;subst e;rw[List.length_append] at hn;have IH:=ap (fun (W:World) (h:TA W base tb out A c)=>Ej base tb n a la out A c W cn ⟨a0,a1⟩ h (by omega));have JF:=ap (fun (A:Option Addr) (c:Nat) (W:World) (h:TA W base tb (out++la) A c)=>Ej base tb n b lb (out++la) A c W fc ⟨b0,b1⟩ h (by rw[List.length_append];omega));clear hm cn fc h
    go_enter Tryz.func233,Tryz.ntmps233
    go_wp2_with fail
    refine (HM.o _).mono ?_;rintro e w1 ⟨rfl,ak⟩;have cA:=ap (HT.o.go ak);have ax:=ap (Tn.b8 (base:=base) (t:=3) (b:=tb) ak);clear ak
    go_wp2_with fail
    refine (IH.o _ cA.o).mono ?_;rintro e w2 ⟨A',c',rfl,fe,af⟩;have kZ:=ap fe;have ag:=ap af;clear fe af
    go_wp2_with fail
    refine (JF.o _ _ _ kZ.o).mono ?_;rintro e w3 ⟨A3,c3,rfl,rP,aA⟩;have cB:=ap rP;have aw:=ap aA;clear rP aA;go_wp2;go_end0;exact⟨_,_,rfl,by rw[←List.append_assoc];exact cB.o,(ax.o.trans ag.o).trans aw.o⟩
namespace Nf
def bU(l:List Int):List Int:=l.flatMap parts
theorem xQ(l:List Int):(bU l).length≤16*l.length:=by
 unfold bU
 induction l with
 | nil=>simp
 | cons x l ih=>rw[List.flatMap_cons,List.length_append,List.length_cons];have:=ai5 x;omega
theorem Kf{l:List Int}{j:Nat}{a:Int}(h:l[j]?=some a):bU (l.take (j+1))=bU (l.take j)++parts a:=by
 unfold bU;rw[List.take_add_one,h,List.flatMap_append];simp
end Nf
theorem adq(l:List Int)(A:Option Addr)(c:Nat)(w:World)(hr:Reads w w.heap.size 1 A l.length (aq l))(bK:∀x∈l,Nf.Ok x)(hn:l.length≤1000000) :
  Calls Tryz.prog 216 #[.slice A l.length c] w fun e w'=>∃A' c',e=.returned (.slice A' (Nf.bU l).length c')∧w'.ownsRow w.heap.size 3 1 (.slice A' (Nf.bU l).length c') (Nf.bU l).length (aq (Nf.bU l))∧Below w.heap.size w w':=by
 have HR:=ap hr;have ic:=ap bK;clear hr bK;obtain⟨N,hN⟩:∃N,l.length=N:=⟨_,rfl⟩;rw[hN] at hn HR ⊢;have HN:=ap hN;clear hN;have HW0:=ap (show TA (w.alloc (.cells #[.slice none 0 0] 291)) w.heap.size w.heap.size [] none 0 from⟨ae.new _ _ _,World.ownsRow_nil _ _ _ _,by simp⟩);have cu:=ap (ay w (.cells #[.slice none 0 0] 291))
 go_enter Tryz.func216,Tryz.ntmps216
 go_wp2
 go_loopg [10] N (fun gk vk wr=>∃(j:Nat) (A':Option Addr) (c':Nat),gk=N-j∧j≤N∧vk=.int .i64 (j:Int)∧TA wr w.heap.size w.heap.size (Nf.bU (l.take j)) A' c'∧Below w.heap.size w wr)
 case atStart=>exact⟨0,none,0,rfl,by omega,rfl,HW0.o,cu.o⟩
 case round=>
  obtain⟨j,A',c',au,hj,rfl,ht,hb⟩:=hrel;have Hg:=ap au;have HT:=ap ht;have HB:=ap hb;clear au ht hb
  by_cases hlt:j<N
  ·obtain⟨a,ha⟩:∃a,l[j]?=some a:=⟨_,List.getElem?_eq_getElem (by rw[HN.o];exact hlt)⟩;obtain⟨gb,off,rfl,dC,hcell⟩:=HR.o.2 (by omega);have y0:wr.cell? ⟨gb,off+j,none⟩=some (.int .i64 a):=(HB.o.cell dC).trans (hcell j _ (by unfold aq;rw[List.getElem?_map,ha];rfl));have HD:=ap (Nf.Kf ha);have hlen:=Nf.xQ (l.take (j+1))
   have gC:(Nf.bU (l.take j)).length+(Nf.parts a).length≤100000000:=by
    rw[←List.length_append,←HD.o];have:=List.length_take_le (j+1) l;have:=HN.o;omega
   have HA:=ap (fun (W:World) (h:TA W w.heap.size w.heap.size (Nf.bU (l.take j)) A' c')=>Ej w.heap.size w.heap.size 4 a _ _ A' c' W (Nf.GF a) (ic.o a (List.mem_of_getElem? ha)) h gC);clear hcell ha hlen gC
   go_wp2_with fail
   refine (HA.o _ HT.o).mono ?_;rintro e w2 ⟨A2,c2,rfl,fe,af⟩;have kZ:=ap fe;have ag:=ap af;clear fe af;go_wp2
   go_roundg (N-(j+1))
   case measure=>have:=Hg.o;omega
   case rel=>exact⟨j+1,A2,c2,rfl,by omega,by first|rfl|go_num,by rw[HD.o];exact kZ.o,HB.o.trans (ag.o.below (Nat.le_refl _) (Nat.le_refl _) HT.o.base)⟩
  have oN:j=N:=by omega
  subst oN;have q0:=HT.o.blk.cell 0;go_wp2;go_ret;have hx:=HT.o;rw[List.take_of_length_le (by rw[HN.o];exact Nat.le_refl _)] at hx ⊢;exact⟨_,_,rfl,hx.own,HB.o⟩
theorem adp(r:Int):Nf.bU [r]=Nf.parts r:=by simp[Nf.bU]
theorem ai4(r:Int)(w:World)(hr:Nf.Ok r) :
  Calls Tryz.prog 184 #[.int .i64 r] w fun e w'=>∃A' c',e=.returned (.slice A' (Nf.parts r).length c')∧w'.ownsRow w.heap.size 3 1 (.slice A' (Nf.parts r).length c') (Nf.parts r).length (aq (Nf.parts r))∧Below w.heap.size w w':=by
 have HD:=ap (adq [r] (some ⟨w.heap.size,0,none⟩) 1 (w.alloc (.cells #[.int .i64 r] 3)) (XH w [r]) (by intro x hx;rw[List.mem_singleton] at hx;subst hx;exact hr) (by simp));rw[adp] at HD;have HB:=ap (ay w (.cells #[.int .i64 r] 3))
 go_enter Tryz.func184,Tryz.ntmps184
 go_wp2_with fail
 refine HD.o.mono ?_;rintro e w2 ⟨A',c',rfl,ho,hb⟩;have HO:=ap ho;have ag:=ap hb;clear ho hb;go_wp2;go_ret;exact⟨_,_,rfl,HO.o.mono (by simp),HB.o.trans (ag.o.mono (by simp))⟩
end
section
namespace Nf
def cj(a b:List Int):Prop:=∀c,b.filter (fun x=>decide (cls x=c))=a.filter (fun x=>decide (cls x=c))
def Up(l:List Int):Prop:=l.Pairwise fun x y=>cls x≤cls y
theorem cj.refl(a:List Int):cj a a:=fun _=>rfl
theorem cj.trans{a b c:List Int}(h:cj a b)(k:cj b c):cj a c:=fun n=>(k n).trans (h n)
theorem cj.symm{a b:List Int}(h:cj a b):cj b a:=fun n=>(h n).symm
theorem cj.app{a b c d:List Int}(h:cj a b)(k:cj c d):cj (a++c) (b++d):=fun n=>by
 rw[List.filter_append,List.filter_append,h n,k n]
theorem cj.mem{a b:List Int}(h:cj a b)(x:Int):x∈b↔x∈a:=by
 have e:=h (cls x);have f:∀l:List Int,x∈l.filter (fun y=>decide (cls y=cls x))↔x∈l:=fun l=>by simp
 rw[←f b,e,f a]
theorem NH{u v:List Int}(h:∀x∈u,∀y∈v,cls x≠cls y):cj (u++v) (v++u):=fun n=>by
 rw[List.filter_append,List.filter_append]
 by_cases hu:u.filter (fun x=>decide (cls x=n))=[]
 ·rw[hu,List.nil_append,List.append_nil]
 have hv:v.filter (fun x=>decide (cls x=n))=[]:=by
  obtain⟨x,hx⟩:=List.exists_mem_of_ne_nil _ hu;rw[List.mem_filter] at hx;rw[List.filter_eq_nil_iff];intro y hy hc;exact h x hx.1 y hy ((of_decide_eq_true hx.2).trans (of_decide_eq_true hc).symm)
 rw[hv,List.nil_append,List.append_nil]
theorem Od:∀{a b:List Int},Up a→Up b→cj a b→b=a
 | [],b,_,_,h=>by
  cases b with
  | nil=>rfl
  | cons y b=>exact absurd ((h.mem y).1 (List.mem_cons_self ..)) (by simp)
 | x :: a,b,ha,hb,h=>by
  cases b with
  | nil=>exact absurd ((h.mem x).2 (List.mem_cons_self ..)) (by simp)
  | cons y b=>
   unfold Up at ha hb;rw[List.pairwise_cons] at ha hb
   have h1:cls x≤cls y:=by
    rcases List.mem_cons.1 ((h.mem y).1 (List.mem_cons_self ..)) with e|hm
    ·rw[e];exact Int.le_refl _
    exact ha.1 _ hm
   have h2:cls y≤cls x:=by
    rcases List.mem_cons.1 ((h.mem x).2 (List.mem_cons_self ..)) with e|hm
    ·rw[e];exact Int.le_refl _
    exact hb.1 _ hm
   have he:cls x=cls y:=Int.le_antisymm h1 h2;have e:=h (cls x);rw[List.filter_cons,List.filter_cons,if_pos (by simp[he]),if_pos (by simp)] at e;injection e with exy _
   subst exy
   have:cj a b:=fun n=>by
    have e:=h n;rw[List.filter_cons,List.filter_cons] at e
    split at e
    ·injection e
    exact e
   rw[Od ha.2 hb.2 this]
theorem MG(x:Int):∀l:List Int,Up l→cj (l++[x]) (ins x l)
 | [],_=>cj.refl _
 | y :: l,h=>by
  rw[ins];unfold Up at h;rw[List.pairwise_cons] at h;split
  ·rename_i hc
   have:cj ((y :: l)++[x]) ([x]++(y :: l)):=NH (by
    intro a ha b hb;rw[List.mem_singleton] at hb;subst hb
    rcases List.mem_cons.1 ha with rfl|ha
    ·omega
    have:=h.1 _ ha;omega)
   exact this
  exact (cj.refl [y]).app (MG x l h.2)
theorem VR(x:Int):∀l:List Int,Up l→Up (ins x l)
 | [],_=>by unfold ins Up;simp
 | y :: l,h=>by
  rw[ins];have h0:=h;unfold Up at h;rw[List.pairwise_cons] at h;split
  ·rename_i hc
   unfold Up;rw[List.pairwise_cons];refine⟨fun a ha=>?_,h0⟩
   rcases List.mem_cons.1 ha with rfl|ha
   ·omega
   have:=h.1 _ ha;omega
  rename_i hc
  unfold Up;rw[List.pairwise_cons];refine⟨fun a ha=>?_,VR x l h.2⟩;have:=((MG x l h.2).mem a).1 ha
  rcases List.mem_append.1 this with hm|hm
  ·exact h.1 _ hm
  rw[List.mem_singleton] at hm;subst hm;omega
theorem NN:∀(l acc:List Int),Up acc→Up (l.foldl (fun acc x=>ins x acc) acc)∧cj (acc++l) (l.foldl (fun acc x=>ins x acc) acc)
 | [],acc,h=>⟨h,by rw[List.append_nil];exact cj.refl _⟩
 | x :: l,acc,h=>by
  obtain⟨h1,h2⟩:=NN l (ins x acc) (VR x acc h);refine⟨h1,?_⟩;have:cj ((acc++[x])++l) (ins x acc++l):=(MG x acc h).app (cj.refl l);rw[List.append_assoc] at this;exact this.trans h2
theorem po(l:List Int):Up (az l):=(NN l [] (by unfold Up;exact .nil)).1
theorem qs(l:List Int):cj l (az l):=(NN l [] (by unfold Up;exact .nil)).2
theorem CT{l m:List Int}(h:Up m)(k:cj l m):m=az l:=Od (po l) h ((qs l).symm.trans k)
theorem cj.length{a b:List Int}(h:cj a b):b.length=a.length:=by
 have e:az b=az a:=Od (po a) (po b) ((qs a).symm.trans (h.trans (qs b)))
 have agQ:∀(x:Int) (l:List Int),(ins x l).length=l.length+1:=fun x l=>by
  induction l with
  | nil=>rfl
  | cons y l ih=>rw[ins];split<;>simp[ih]
 have go:∀(l acc:List Int),(l.foldl (fun acc x=>ins x acc) acc).length=acc.length+l.length:=fun l=>by
  induction l with
  | nil=>intro acc;rfl
  | cons x l ih=>intro acc;rw[List.foldl_cons,ih,agQ,List.length_cons];omega
 have:=congrArg List.length e;unfold az at this;rw[go,go] at this
 simpa using this
theorem Up.app{a b:List Int}(ha:Up a)(hb:Up b)(h:∀x∈a,∀y∈b,cls x≤cls y):Up (a++b):=List.pairwise_append.2 ⟨ha,hb,h⟩
theorem Up.left{a b:List Int}(h:Up (a++b)):Up a:=(List.pairwise_append.1 h).1
theorem Up.right{a b:List Int}(h:Up (a++b)):Up b:=(List.pairwise_append.1 h).2.1
theorem Up.ED{a b:List Int}(h:Up (a++b)){x y:Int}(hx:x∈a)(hy:y∈b):cls x≤cls y:=(List.pairwise_append.1 h).2.2 x hx y hy
theorem Up.at_{l:List Int}(h:Up l){i j:Nat}{x y:Int}(hi:l[i]?=some x)(hj:l[j]?=some y)(tQ:i≤j):cls x≤cls y:=by
 obtain⟨i1,e1⟩:=List.getElem?_eq_some_iff.1 hi;obtain⟨j1,e2⟩:=List.getElem?_eq_some_iff.1 hj
 rcases Nat.lt_or_eq_of_le tQ with hlt|rfl
 ·have:=List.pairwise_iff_getElem.1 h i j i1 j1 hlt;rwa[e1,e2] at this
 rw[←e1,←e2];exact Int.le_refl _
theorem YE(P Q R:List Int)(x y:Int){i j:Nat}(hi:i=P.length)(hj:j=P.length+1+Q.length):((P++x :: (Q++y :: R)).set i y).set j x=P++y :: (Q++x :: R):=by
 subst hi;subst hj;rw[List.set_append_right _ _ (Nat.le_refl _),Nat.sub_self,List.set_cons_zero,List.set_append_right _ _ (by omega),show P.length+1+Q.length-P.length=Q.length+1 by omega,List.set_cons_succ,List.set_append_right _ _ (Nat.le_refl _),Nat.sub_self,List.set_cons_zero]
end Nf
end
end Go.Proofs.YtpdkeckeekchlaaGreatDoor
