/- A call of a function value: it enters the function. And more. -/
import Derived.Test.YtifiiojchlaghaaGreatDoorOk00
import Derived.Test.YtifiiojchlaghaaGreatDoorOk08
import Derived.Test.YtifiiojchlaghaaGreatDoorOk09
import Derived.Test.YtifiiojchlaghaaGreatDoorOk17
import Derived.Laws.EntriesVeiled
import Derived.ArgAppend
set_option linter.unusedSimpArgs false
set_option maxRecDepth 100000
set_option maxHeartbeats 16000000
set_option linter.unusedVariables false
namespace Go.Proofs.YtifiiojchlaghaaGreatDoor
section
open Go Go.RowKit

theorem callFunc_body {P : Program} {f : FuncId} {fn : Func} (hf : P.funcs[f]? = some fn) (hname : (fn.name == "runtime.NumGoroutine") = false) (hb : fn.body.isSome = true) (args : Array Value) (w : World) : (callFunc f args).run P w = .ok (.enter f args) w := by
 have h1 : fn.name ≠ "runtime.NumGoroutine" := by simpa using hname
 obtain⟨c,hc⟩:=Option.isSome_iff_exists.1 hb;simp[callFunc,hf,h1,hc]
end
section
open Go.RowKit Tk Sx

def ParseR(w:World)(r:Except (Nat×Nat) (List Ev))(e:Ending)(w':World):Prop:=Below w.heap.size w w'∧match r with
 | .error x=>e=.returned (.tuple #[.slice none 0 0,.int .i64 (x.1:Int),.int .i64 (x.2:Int)])
 | .ok evs=>∃xs A c,xs.map (·.e)=evs∧e=.returned (.tuple #[.slice A xs.length c,.int .i64 (-1),.int .i64 0])∧xs.length≤c∧Reads w' w'.heap.size 5 A xs.length (ews xs)∧Above w.heap.size A∧Typed w' A 62∧∀x∈xs,x.In w.heap.size w'
theorem kind_nat{N:Nat}{t:Tok}(h:TokS N t):∃kn:Nat,t.kind=(kn:Int)∧kn<5:=by
 rcases h.kd with h|h|h|h|h
 ·exact⟨0,h,by omega⟩
 ·exact⟨1,h,by omega⟩
 ·exact⟨2,h,by omega⟩
 ·exact⟨3,h,by omega⟩
 exact⟨4,h,by omega⟩
def bound(P:Nat):Array Value:=#[.func (.func 34) #[.pointer (some ⟨P,0,none⟩)] #[],.func (.func 35) #[.pointer (some ⟨P,0,none⟩)] #[],.func (.func 36) #[.pointer (some ⟨P,0,none⟩)] #[],.func (.func 37) #[.pointer (some ⟨P,0,none⟩)] #[],.func (.func 38) #[.pointer (some ⟨P,0,none⟩)] #[]]
theorem bound_at{W:World}{K P:Nat}(h:Blk W K 82 (bound P)){kn:Nat}(hk:kn<5):W.cell? ⟨K,kn,none⟩=some (.func (.func (fnK (kn:Int))) #[.pointer (some ⟨P,0,none⟩)] #[]):=by
 have c0:=h.cell 0;have c1:=h.cell 1;have c2:=h.cell 2;have c3:=h.cell 3;have c4:=h.cell 4
 match kn,hk with
 | 0,_=>exact c0
 | 1,_=>exact c1
 | 2,_=>exact c2
 | 3,_=>exact c3
 | 4,_=>exact c4
theorem fnK_enter{kn:Nat}(hk:kn<5)(args:Array Value)(w:World):(callFunc (fnK (kn:Int)) args).run Tryz.prog w=.ok (.enter (fnK (kn:Int)) args) w:=by
 match kn,hk with
 | 0,_=>exact callFunc_body Tryz.func34 (by kernel_rfl) (by kernel_rfl) _ _
 | 1,_=>exact callFunc_body Tryz.func35 (by kernel_rfl) (by kernel_rfl) _ _
 | 2,_=>exact callFunc_body Tryz.func36 (by kernel_rfl) (by kernel_rfl) _ _
 | 3,_=>exact callFunc_body Tryz.func37 (by kernel_rfl) (by kernel_rfl) _ _
 | 4,_=>exact callFunc_body Tryz.func38 (by kernel_rfl) (by kernel_rfl) _ _
theorem PI.zero(B:Nat)(w:World)(hB:B≤w.heap.size):PI B w.heap.size (w.alloc (.cells #[.slice none 0 0,.slice none 0 0,.slice none 0 0,.bool false,.pointer none] 80)) st0 none ⟨none,0,none,0,none,0,.pointer none,[]⟩ :=
 ⟨Blk.new w 80 _,hB,World.ownsRow_nil _ _ _ _,World.ownsRow_nil _ _ _ _,World.ownsRow_nil _ _ _ _,rfl,fun x hx=>(by cases hx),rfl⟩

theorem allT_toks{s:L}{ts:List Tok}{n:Nat}{ok:Bool}(h:AllT s ts n ok):toks s.length 0 s=ts∧tokEnd ts=n∧ok=decide (n=s.length):=h
theorem parse_any(s:ByteArray)(w:World)(hg:Gl w)(hw6:6≤w.heap.size)(hs:s.size≤300000)(hfi:fine s.data.toList=true)(hsT:SmlT s.data.toList)(hsS:SmlS s.data.toList) :
  Calls Tryz.prog 20 #[.string s] w (ParseR w (Sx.parse s.data.toList)):=by
 have HBd:=hide (bad_any s w (by omega));have HT:=hide (fun W (h:Below w.heap.size w W)=>tks_any W s (hg.below h) (Nat.le_trans hw6 h.size) (by omega) hsT);obtain⟨D,hD⟩:∃D,s.data.toList=D:=⟨_,rfl⟩;rw[hD] at HBd HT hfi hsS ⊢;have HS:=hide hsS;have HDl:=hide (show D.length=s.size by rw[←hD,size_list]);have HG:=hide hg;obtain⟨R,hR⟩:∃R,Sx.parse D=R:=⟨_,rfl⟩;rw[hR];unfold Sx.parse at hR;obtain⟨bd,hbd⟩:∃bd,bad D=bd:=⟨_,rfl⟩;rw[hbd] at HBd hR;have Hbd:=hide hbd;clear hg hD hbd
 have h0:¬0≤bd:=fun h=>by
  have hbf:=bad_fine D;rw[hfi,Hbd.out,decide_eq_true h] at hbf;cases hbf
 rw[if_neg h0] at hR;have HR:=hide hR;have hd:decide ((0:Int)≤bd)=false:=decide_eq_false h0;clear hR h0 hfi hsS hsT
 go_enter Tryz.func20,Tryz.ntmps20
 go_wp2_with fail
 refine HBd.out.mono ?_;rintro e w1 ⟨rfl,b1⟩;have B1:=hide b1;clear b1
 go_wp2_with fail
 refine (HT.out _ B1.out).mono ?_;rintro e w2 ⟨xs,A,c,n,ok,hP,hxl,hxc,rfl,b2,hr,-,-,hi⟩;have B2:=hide (B1.out.trans (b2.mono B1.out.size));have HP:=hide hP;have HTk:=hide (TkL.of hr hi);obtain⟨N,hN⟩:∃N,xs.length=N:=⟨_,rfl⟩;have HN:=hide hN;rw[hN] at hxl hxc ⊢;have Hxl:=hide hxl;have Hxc:=hide hxc;clear hP hr hi b2 hN hxl hxc
 cases ok with
 | false=>
  go_wp2;go_ret3
  have hRe:R=.error (n,50):=by
   obtain⟨h1,h2,h3⟩:=allT_toks HP.out;rw[←HR.out,h1,h2,if_pos (by simpa using h3)]
  rw[hRe];exact⟨B2.out,rfl⟩
 | true=>
  have I0:=hide ((PI.zero w2.heap.size w2 (Nat.le_refl _)).go (below_alloc _ (.cells (bound w2.heap.size) 82)));have k0:=Blk.new (w2.alloc (.cells #[.slice none 0 0,.slice none 0 0,.slice none 0 0,.bool false,.pointer none] 80)) 82 (bound w2.heap.size);rw[World.size_alloc] at k0;have K0:=hide k0;have T0:=hide (((Below.refl _ w2).alloc (Nat.le_refl _) (.cells #[.slice none 0 0,.slice none 0 0,.slice none 0 0,.bool false,.pointer none] 80)).alloc (by simp) (.cells (bound w2.heap.size) 82));have G2:=hide (HG.out.below B2.out);have H6:=hide (Nat.le_trans hw6 B2.out.size);clear k0;go_wp2;obtain⟨B,hB⟩:∃B,w2.heap.size=B:=⟨_,rfl⟩;rw[hB] at I0 K0 T0 HTk H6 ⊢;have HB:=hide hB;obtain⟨ts,hts⟩:∃ts,xs.map (·.t)=ts:=⟨_,rfl⟩;rw[hts] at HP;have Hts:=hide hts;have HBw:=hide (show w.heap.size≤B by rw[←hB];exact B2.out.size);have hN5:N≤300000:=by have:=Hxl.out;have:=HDl.out;omega
  clear hB hts
  go_loopg [39] N (fun gk vk wr=>∃(k:Nat) (st:St) (v:Pv),gk=N-k∧k≤N∧vk=.int .i64 (k:Int)∧run st0 (ts.take k)=.ok st∧PI B B wr st none v∧Blk wr (B+1) 82 (bound B)∧Below B w2 wr)
  case atStart=>exact⟨0,st0,_,rfl,by omega,rfl,rfl,I0.out,K0.out,T0.out⟩
  case round=>
   obtain⟨k,st,v,hgk,hk,rfl,h1,h2,h3,h4⟩:=hrel;have Hg:=hide hgk;have H1:=hide h1;have I1:=hide h2;have K1:=hide h3;have T1:=hide h4;have Ok1:=hide (HS.out.ru k st (by rw[HP.out.1];exact h1));clear hgk h1 h2 h3 h4 I0 K0 T0
   by_cases hlt:k<N
   ·obtain⟨x,hx⟩:∃x,xs[k]?=some x:=⟨_,List.getElem?_eq_getElem (by rw[HN.out];exact hlt)⟩;obtain⟨b,off,rfl,hb,hat⟩:=HTk.out.at_ hx;have hxm:x.t∈ts:=by rw[←Hts.out];exact List.mem_map_of_mem (List.mem_of_getElem? hx)
    have htk:ts[k]?=some x.t:=by rw[←Hts.out,List.getElem?_map,hx];rfl
    have hsub:=HTk.out.sub x.g (List.mem_map_of_mem (List.mem_of_getElem? hx));have hsm:=HS.out.tk x.t (by rw[HP.out.1];exact hxm);obtain⟨kn,hkn,hk5⟩:=kind_nat hsm;have y0:wr.cell? ⟨b,off+k*7,none⟩=some (.int .i8 (kn:Int)):=by rw[←hkn];exact (T1.out.cell (p:=⟨b,off+k*7,none⟩) hb).trans hat.c0
    have yf:=bound_at K1.out hk5;have ht:TkB B wr b (off+k*7) x.t:=⟨hb,(T1.out.cell (p:=⟨b,off+k*7+1,none⟩) hb).trans hat.c1,(T1.out.cell (p:=⟨b,off+k*7+3,none⟩) hb).trans hat.c3,(T1.out.cell (p:=⟨b,off+k*7+4,none⟩) hb).trans hat.c4,(T1.out.cell (p:=⟨b,off+k*7+5,none⟩) hb).trans hat.c5⟩
    have hta:wr.cell? ⟨b,off+k*7+2,none⟩=some (.slice x.A x.t.attrs.length x.c):=by
     have:=(T1.out.cell (p:=⟨b,off+k*7+2,none⟩) hb).trans hat.c2;rwa[show x.g.as_.length=x.t.attrs.length from List.length_map _] at this
    have hrd:Reads wr B 3 x.A x.t.attrs.length (gas (x.t.attrs.map At.g)):=by
     have:=hsub.below T1.out;rwa[show x.g.as_.length=x.t.attrs.length from List.length_map _] at this
    have hSt:=step_any B B wr.drew st v b (off+k*7) x.t x.A x.c (I1.out.go (Below.refl _ _).drew) (by rw[←HB.out];exact T1.out.size) H6.out ((G2.out.below (by rw[HB.out];exact T1.out)).below (Below.refl _ _).drew) ⟨ht.lt,ht.c1,ht.c3,ht.c4,ht.c5⟩ hta hrd hsm Ok1.out;rw[hkn] at hSt;have HSt:=hide hSt;have Hrun:=hide (show run st0 (ts.take (k+1))=Sx.step st x.t by rw[List.take_add_one,htk];show run st0 (ts.take k++[x.t])=_;rw[run_snoc,H1.out]);have Hsm:=hide hsm;have hcf:=fun args w=>fnK_enter hk5 args w;generalize fnK (kn:Int)=fn at *
    obtain⟨r,hr⟩:∃r,Sx.step st x.t=r:=⟨_,rfl⟩;have Hr:=hide hr;rw[hr] at HSt Hrun;clear hat hx hxm htk hsub hsm hkn ht hta hrd hSt hr
    cases r with
    | error y=>
     have hRe:R=.error y:=by
      obtain⟨q1,q2,q3⟩:=allT_toks HP.out;have:=run_error Hrun.out (ts.drop (k+1));rw[List.take_append_drop] at this;rw[←HR.out,q1,q2,if_neg (by simpa using q3),this]
     subst hRe;go_wp2
     go_region_with (refine HSt.out.mono ?_;rintro e w3 ⟨rfl,hm,st',v',hp⟩)
     all_goals
      have c4:=hp.c4;obtain⟨F,hF,hFv,hFk⟩:=hp.bad;rw[hFv] at c4;have z0:=hFk.cell 0;have z1:=hFk.cell 1;have M3:=hide hm;have HwB:=hide (show B≤wr.heap.size by rw[←HB.out];exact T1.out.size);clear hp hF hFv hFk hm;go_wp2
      go_quiet (fail)
      go_wp2;go_ret3;exact⟨below_drewN (B2.out.trans ((T1.out.trans (((Mov.refl B B wr).drew.trans M3.out).below (C:=B) (Nat.le_refl _) (Nat.le_refl _) HwB.out)).mono HBw.out)) _,rfl⟩
    | ok st'=>
     go_wp2
     go_region_with (refine HSt.out.mono ?_;rintro e w3 ⟨rfl,hm,v',hp⟩)
     all_goals
      have c4:=hp.c4;rw[hp.vb_none] at c4;have P3:=hide hp;have M3:=hide hm;have HwB:=hide (show B≤wr.heap.size by rw[←HB.out];exact T1.out.size);clear hp hm;go_wp2
      go_roundg (N-(k+1))
      case measure=>have:=Hg.out;omega
      case rel=>
       have hm':Mov B B wr w3:=(Mov.refl B B wr).drew.trans M3.out;exact⟨k+1,st',v',rfl,by omega,by first|rfl|go_num,Hrun.out,P3.out,hm'.blk K1.out (by omega) (by decide),T1.out.trans (hm'.below (Nat.le_refl _) (Nat.le_refl _) HwB.out)⟩
   have hkN:k=N:=by omega
   subst hkN;have hall:ts.take k=ts:=List.take_of_length_le (by rw[←Hts.out,List.length_map,HN.out];exact Nat.le_refl _);have hrun:=H1.out;rw[hall] at hrun
   have hRe:R=if st.open_=[]∧st.rooted=true then .ok st.evs else .error (D.length,50):=by
    obtain⟨q1,q2,q3⟩:=allT_toks HP.out;rw[←HR.out,q1,q2,if_neg (by simpa using q3),hrun]
   have HRe:=hide hRe;have c0:=I1.out.c;have c3:=I1.out.c3;obtain⟨no,hno⟩:∃no,st.open_.length=no:=⟨_,rfl⟩;have Hno:=hide hno;rw[hno] at c0;obtain⟨ro,hro⟩:∃ro,st.rooted=ro:=⟨_,rfl⟩;have Hro:=hide hro;rw[hro] at c3;have HBe:=hide (B2.out.trans (T1.out.mono (by have:=B2.out.size;have:=HB.out;omega)));clear hall hrun hRe hno hro HR
   by_cases h0:no=0
   ·subst h0;have ho:st.open_=[]:=List.eq_nil_of_length_eq_zero Hno.out
    cases ro with
    | true=>
     have hR2:R=.ok st.evs:=by rw[HRe.out,if_pos ⟨ho,Hro.out⟩]
     have c2:=I1.out.c2;obtain⟨ne,hne⟩:∃ne,v.xs.length=ne:=⟨_,rfl⟩;rw[hne] at c2;have Hne:=hide hne;subst hR2;clear ho hne;go_wp2;go_ret3;refine⟨HBe.out,v.xs,v.Ae,v.ce,I1.out.ev,?_,own_cap I1.out.e,Reads.of_own I1.out.e,(above_own I1.out.e).more HBw.out,typed_own I1.out.e,fun x hx=>⟨(I1.out.inn x hx).a,(I1.out.inn x hx).va.more HBw.out,(I1.out.inn x hx).ta⟩⟩;rw[Hne.out];rfl
    | false=>
     have hR2:R=.error (s.size,50):=by rw[HRe.out,if_neg (by rw[Hro.out];simp),HDl.out]
     subst hR2;clear ho;go_wp2;go_ret3;exact⟨HBe.out,rfl⟩
   have hR2:R=.error (s.size,50):=by rw[HRe.out,if_neg (by intro h;apply h0;rw[←Hno.out,h.1];rfl),HDl.out]
   have hn0:0<no:=by omega
   subst hR2;clear h0;go_wp2;go_ret3;exact⟨HBe.out,rfl⟩
end
section
open Go.RowKit Tk Sx

structure EvAt(w:World)(b o:Nat)(x:Ew):Prop where
 c0:w.cell? ⟨b,o,none⟩=some (.int .i8 (x.e.kind:Int))
 c1:w.cell? ⟨b,o+1,none⟩=some (.string (bstr x.e.name.ns))
 c2:w.cell? ⟨b,o+2,none⟩=some (.string (bstr x.e.name.loc))
 c3:w.cell? ⟨b,o+3,none⟩=some (.slice x.A x.e.attrs.length x.c)
 c4:w.cell? ⟨b,o+4,none⟩=some (.string (bstr x.e.text))
structure AttAt(w:World)(b o:Nat)(x:Att):Prop where
 c0:w.cell? ⟨b,o,none⟩=some (.string (bstr x.name.ns))
 c1:w.cell? ⟨b,o+1,none⟩=some (.string (bstr x.name.loc))
 c2:w.cell? ⟨b,o+2,none⟩=some (.string (bstr x.val))
structure EvL(w:World)(B:Nat)(A:Option Addr)(xs:List Ew):Prop where
 row:Reads w B 5 A xs.length (ews xs)
 sub:∀x∈xs,Reads w B 3 x.A x.e.attrs.length (atts x.e.attrs)
section
variable {w w':World} {B B':Nat} {A:Option Addr} {xs:List Ew}
theorem EvL.below(h:EvL w B A xs)(hb:Below B w w'):EvL w' B A xs:=⟨h.row.below hb,fun x hx=>(h.sub x hx).below hb⟩
theorem EvL.more(h:EvL w B A xs)(hB:B≤B'):EvL w B' A xs:=⟨h.row.more hB,fun x hx=>(h.sub x hx).more hB⟩
theorem EvL.at_(h:EvL w B A xs){k:Nat}{x:Ew}(hx:xs[k]?=some x):∃b off,A=some ⟨b,off,none⟩∧b<B∧EvAt w b (off+k*5) x:=by
 obtain⟨hk,he⟩:=List.getElem?_eq_some_iff.1 hx;obtain⟨b,off,hA,hb,hc⟩:=h.row.2 (by omega)
 have hf:∀j,j<5→(ews xs)[k*5+j]?=(ewCells x)[j]?:=fun j hj=>by
  unfold ews;rw[fm_at ew_len xs k hk j hj,he]
 refine⟨b,off,hA,hb,?_⟩
 constructor
 ·have:=hc (k*5+0) _ (hf 0 (by omega));simpa using this
 ·have:=hc (k*5+1) _ (hf 1 (by omega));rwa[←Nat.add_assoc] at this
 ·have:=hc (k*5+2) _ (hf 2 (by omega));rwa[←Nat.add_assoc] at this
 ·have:=hc (k*5+3) _ (hf 3 (by omega));rwa[←Nat.add_assoc] at this
 have:=hc (k*5+4) _ (hf 4 (by omega));rwa[←Nat.add_assoc] at this
theorem atts_at{l:List Att}(h:Reads w B 3 A l.length (atts l)){k:Nat}{x:Att}(hx:l[k]?=some x):∃b off,A=some ⟨b,off,none⟩∧b<B∧AttAt w b (off+k*3) x:=by
 obtain⟨hk,he⟩:=List.getElem?_eq_some_iff.1 hx;obtain⟨b,off,hA,hb,hc⟩:=h.2 (by omega)
 have hf:∀j,j<3→(atts l)[k*3+j]?=(attCells x)[j]?:=fun j hj=>by
  unfold atts;rw[fm_at att_len l k hk j hj,he]
 refine⟨b,off,hA,hb,?_⟩
 constructor
 ·have:=hc (k*3+0) _ (hf 0 (by omega));simpa using this
 ·have:=hc (k*3+1) _ (hf 1 (by omega));rwa[←Nat.add_assoc] at this
 have:=hc (k*3+2) _ (hf 2 (by omega));rwa[←Nat.add_assoc] at this
end
end
section
open Go.RowKit Tk Sx Go.WideShapes

theorem bstr_eqI(a b:L):((bstr a).toList=(bstr b).toList)↔a=b:=by
 rw[ByteArray.toList_eq,ByteArray.toList_eq]
 constructor
 ·intro h;exact str_inj (by rw[ByteArray.ext_iff];exact Array.toList_inj.1 h)
 rintro rfl;rfl
def eqNm(x y:Nm):Bool:=decide (x.ns=y.ns)&&decide (x.loc=y.loc)
theorem eqNm_iff(x y:Nm):eqNm x y=true↔x=y:=by
 unfold eqNm;obtain⟨a,b⟩:=x;obtain⟨a',b'⟩:=y;simp only[Bool.and_eq_true,decide_eq_true_eq,Nm.mk.injEq]
theorem eql_nm(w:World)(x y:Nm):(binOp .eql 57 (.agg #[.string (bstr x.ns),.string (bstr x.loc)]) (.agg #[.string (bstr y.ns),.string (bstr y.loc)])).run Tryz.prog w=.ok (.bool (eqNm x y)) w:=by
 unfold eqNm;go_simp;simp only[bstr_eqI];obtain⟨a,b⟩:=x;obtain⟨a',b'⟩:=y;dsimp only
 (repeat' split)<;>simp_all
theorem plain_bool_invE{H:Type}{e:TypeId}(he:Tryz.prog.underlying e=some .bool){v:Value}{z:DataW H×List MemPlace}(h:plainElem Tryz.prog e v=some z):∃x,v=.bool x∧z=(.lit (.bool x),[]):=by
 unfold plainElem at h;rw[he] at h
 cases v<;>simp at h
 subst h;exact⟨_,rfl,rfl⟩
theorem zero_boolE(w:World):(zeroValue 4).run Tryz.prog w=.ok (.bool false) w:=by kernel_rfl
structure SeenN(W:World)(mb n:Nat)(seen:List Nm)(D:DataW Unit):Prop where
 own:W.ownsMap Tryz.prog 57 (plainElem Tryz.prog 4) mb n D
 is:Maps.IsMap D
 ok:∀x:Nm,SmallN x→D.atKey (klN x) (.lit (.bool false))=.lit (.bool (decide (x∈seen)))
theorem SeenN.new(w:World):SeenN (w.alloc (.map #[] 0)) w.heap.size 0 [] (.map []):=⟨World.ownsMap_made _ _ _ _,Maps.isMap_empty,fun _ _=>by simp[DataW.atKey]⟩
theorem SeenN.same{W W':World}{mb n:Nat}{seen:List Nm}{D:DataW Unit}(h:SeenN W mb n seen D)(e:W'.heap[mb]?=W.heap[mb]?):SeenN W' mb n seen D:=⟨map_same h.own e,h.is,h.ok⟩
theorem SeenN.lt{W:World}{mb n:Nat}{seen:List Nm}{D:DataW Unit}(h:SeenN W mb n seen D):mb<W.heap.size:=h.own.lt
theorem SeenN.next{W W':World}{mb n:Nat}{seen:List Nm}{D:DataW Unit}{x:Nm}(h:SeenN W mb n seen D)(hx:SmallN x)(ho:W'.ownsMap Tryz.prog 57 (plainElem Tryz.prog 4) mb (n+1) (D.put (klN x) (.lit (.bool true)))):SeenN W' mb (n+1) (x :: seen) (D.put (klN x) (.lit (.bool true))):=by
 refine⟨ho,h.is.put _ _,fun y hy=>?_⟩
 by_cases hm:y=x
 ·subst hm;rw[Maps.atKey_put_same h.is (k:=klN y) (by simp[WideAt.IsKeyLit,klN])];simp
 rw[Maps.atKey_put_other (fun e=>hm (klN_inj hy hx e)),h.ok y hy];simp[hm]
theorem SeenN.find{W:World}{mb n:Nat}{seen:List Nm}{D:DataW Unit}(h:SeenN W mb n seen D){x:Nm}(hx:SmallN x) :
  (Instr.lookup 186 (.map (some mb)) (nmV x) false).run Tryz.prog W=.ok (.bool (decide (x∈seen))) W:=by
 obtain⟨v,ps,hrun,hv⟩:=h.own.lookup law_nm Tryz.underlying186 (zero_boolE W) (plainElem_bool Tryz.underlying4 false) (keyOf_nm hx);obtain⟨c,rfl,hc⟩:=plain_bool_invE Tryz.underlying4 hv;simp only[Prod.mk.injEq] at hc;have hr:=hc.1;rw[h.ok x hx] at hr;simp only[DataW.lit.injEq,Lit.bool.injEq] at hr;subst hr;exact hrun
theorem emp_is(t:L):(bstr t).toList.isEmpty=t.isEmpty:=by rw[ByteArray.toList_eq];rfl
theorem emp_no{t:L}(h:t≠[]):(bstr t).toList.isEmpty=false:=by
 rw[emp_is]
 cases t with
 | nil=>exact absurd rfl h
 | cons a t=>rfl
theorem fields_any(x:Ew)(w:World)(hf:Evs.Fld x.e)(hr:Reads w w.heap.size 3 x.A x.e.attrs.length (atts x.e.attrs))(hn:x.e.attrs.length≤1000000)(hs:∀a∈x.e.attrs,SmallN a.name) :
  Calls Tryz.prog 100 #[.agg (ewCells x).toArray] w fun e w'=>e=.returned (.bool true)∧Below w.heap.size w w':=by
 obtain⟨⟨kd,⟨ns,loc⟩,as_,tx⟩,A,c⟩:=x;dsimp only at hf hr hn hs;have HO:=hide (below_alloc w (.cells (ewCells ⟨⟨kd,⟨ns,loc⟩,as_,tx⟩,A,c⟩).toArray 62));have HT:=hide (Blk.new w 62 (ewCells ⟨⟨kd,⟨ns,loc⟩,as_,tx⟩,A,c⟩).toArray);have hE:∀W:World,(binOp .eql 57 (.agg #[.string (bstr ns),.string (bstr loc)]) (.agg #[.string ⟨#[]⟩,.string ⟨#[]⟩])).run Tryz.prog W=.ok (.bool (eqNm ⟨ns,loc⟩ ⟨[],[]⟩)) W:=fun W=>eql_nm W ⟨ns,loc⟩ ⟨[],[]⟩;unfold Evs.Fld noNm at hf;unfold ewCells at HO HT ⊢;dsimp only at hf hE HO HT ⊢;have t0:=HT.out.cell 0;have t1:=HT.out.cell 1;have t2:=HT.out.cell 2;have t3:=HT.out.cell 3;have t4:=HT.out.cell 4
 rcases hf with ⟨rfl,h1,h2,h3,h4⟩|⟨rfl,h1,rfl,rfl⟩|⟨rfl,h1,rfl,h2⟩
 ·have e1:=emp_no h1;have hq:eqNm ⟨ns,loc⟩ ⟨[],[]⟩=false:=by unfold eqNm;rw[decide_eq_false (p:=loc=[]) h1];simp
  simp only[hq] at hE;subst h2;rw[show ((0:Nat):Int)=0 from rfl] at HO HT t0 ⊢;have Hr:=hide hr;have Hs:=hide hs;have Hnd:=hide h3;have Hlc:=hide h4;have hmm:=@run_makeMap Tryz.prog;have HM0:=hide (SeenN.new (w.alloc (.cells #[.int .i8 0,.string (bstr ns),.string (bstr loc),.slice A as_.length c,.string (bstr [])] 62)));have HB0:=hide (HO.out.trans ((below_alloc (w.alloc (.cells #[.int .i8 0,.string (bstr ns),.string (bstr loc),.slice A as_.length c,.string (bstr [])] 62)) (.map #[] 0)).mono (by simp)));have HT0:=hide (HT.out.alloc (.map #[] 0));rw[World.size_alloc] at HM0;obtain⟨N,hN⟩:∃N,as_.length=N:=⟨_,rfl⟩;have HN:=hide hN;rw[hN] at HT HO HM0 HB0 HT0 Hr hn t3 ⊢;have m1:=HT0.out.cell 0;have m2:=HT0.out.cell 1;have m3:=HT0.out.cell 2;have m4:=HT0.out.cell 3;have m5:=HT0.out.cell 4;clear hr hs h1 h3 h4 hq hN
  go_enter Tryz.func100,Tryz.ntmps100
  go_wp2;clear t0 t1 t2 t3 t4 m1 m2 m3 m4 m5 hmm hE;obtain⟨W0,hW0⟩:∃W0,(w.alloc (.cells #[.int .i8 0,.string (bstr ns),.string (bstr loc),.slice A N c,.string (bstr [])] 62)).alloc (.map #[] 0)=W0:=⟨_,rfl⟩;rw[hW0] at HM0 HB0 HT0 ⊢;have hz0:W0.heap.size=w.heap.size+2:=by rw[←hW0];simp
  clear hW0
  go_loopg [50,6] N (fun gk v50 v6 wr=>∃(i:Nat) (D:DataW Unit),v50=.int .i64 (i:Int)∧gk=N-i∧i≤N∧SeenN wr (w.heap.size+1) i ((as_.take i).map (·.name)).reverse D∧Below w.heap.size w wr∧Blk wr w.heap.size 62 #[.int .i8 0,.string (bstr ns),.string (bstr loc),.slice A N c,.string (bstr [])])
  case atStart=>exact⟨0,_,rfl,rfl,by omega,HM0.out,HB0.out,HT0.out⟩
  case round=>
   obtain⟨i,D,rfl,hgk,hi,hsn,hb,ht⟩:=hrel;have Hgk:=hide hgk;have HSn:=hide hsn;have HB:=hide hb;have HTr:=hide ht;clear hgk hsn hb ht
   by_cases hlt:i<N
   ·obtain⟨a,ha⟩:∃a,as_[i]?=some a:=⟨_,List.getElem?_eq_getElem (by rw[HN.out];exact hlt)⟩;have hrr:Reads wr w.heap.size 3 A as_.length (atts as_):=by rw[HN.out];exact Hr.out.below HB.out
    obtain⟨b,off,rfl,hbB,hx⟩:=atts_at hrr ha;have x0:=hx.c0;have x1:=hx.c1;have x2:=hx.c2;have hsm:=Hs.out a (List.mem_of_getElem? ha);have el:=emp_no (Hlc.out a (List.mem_of_getElem? ha))
    have hnot:decide (a.name∈((as_.take i).map (·.name)).reverse)=false:=by
     refine decide_eq_false fun h=>?_;rw[List.mem_reverse] at h;obtain⟨y,hy,e⟩:=List.mem_map.1 h;obtain⟨k,hk,e2⟩:=List.getElem_of_mem hy;rw[List.length_take] at hk;rw[List.getElem_take] at e2;have hki:k<i:=by omega
     have hnd:=List.pairwise_iff_getElem.1 (List.nodup_iff_pairwise_ne.1 Hnd.out) k i (by rw[List.length_map];omega) (by rw[List.length_map,HN.out];exact hlt) hki;rw[List.getElem_map,List.getElem_map,e2,e] at hnd;exact hnd (by rw[(List.getElem?_eq_some_iff.1 ha).2])
    have hC:=below_alloc wr (.cells #[.string (bstr a.name.ns),.string (bstr a.name.loc),.string (bstr a.val)] 125);have hfind:=(HSn.out.same (hC.block _ HSn.out.lt)).find hsm;rw[hnot] at hfind;unfold nmV at hfind;have HSm:=hide hsm;have HC:=hide hC;have Htk:=hide (show ((as_.take (i+1)).map (·.name)).reverse=a.name :: ((as_.take i).map (·.name)).reverse by rw[List.take_add_one,ha];simp);have hnb:i<maxLen:=by unfold maxLen;omega
    have HK:=hide (Blk.new wr 125 #[.string (bstr a.name.ns),.string (bstr a.name.loc),.string (bstr a.val)]);clear ha hrr hx hnot hsm hC;obtain⟨⟨an,al⟩,av⟩:=a;dsimp only at x0 x1 x2 el hfind
    go_wp2_with (at_mapUpdate;refine wpList_mapUpdate_own _ rfl _ _ _ 186 rfl 57 4 law_nm Tryz.underlying186 _ (w.heap.size+1) i D rfl (HSn.out.same (HC.out.block _ HSn.out.lt)).own hnb _ _ _ (by rfl) (by rfl) (keyOf_nm (x:=⟨an,al⟩) HSm.out) _ [] (plainElem_bool Tryz.underlying4 true) ?_;intro w8 hown8 hgrow8;have HS8:=hide ((HSn.out.same (HC.out.block _ HSn.out.lt)).next HSm.out hown8);have HG8:=hide hgrow8;clear hown8 hgrow8)
    go_roundg (N-(i+1))
    case measure=>have:=Hgk.out;omega
    case rel=>
     refine⟨i+1,_,by first|rfl|go_num,rfl,by omega,by rw[Htk.out];exact HS8.out,?_,?_⟩
     ·exact (HB.out.trans (HC.out.mono HB.out.size)).grown HG8.out (HB.out.trans (HC.out.mono HB.out.size)).size (fun k e=>by injection e with e;omega)
     exact (HTr.out.go HC.out).grown HG8.out (by intro e;injection e with e;omega)
   have t1:=HTr.out.cell 1;have t2:=HTr.out.cell 2;have t4:=HTr.out.cell 4;have e2:(bstr ([]:L)).toList.isEmpty=true:=emp_is [];go_wp2;go_ret;exact⟨rfl,HB.out⟩
 ·have e1:=emp_no h1;have hq:eqNm ⟨ns,loc⟩ ⟨[],[]⟩=false:=by unfold eqNm;rw[decide_eq_false (p:=loc=[]) h1];simp
  simp only[hq] at hE;have e2:(bstr ([]:L)).toList.isEmpty=true:=emp_is [];clear hr hn hs h1 hq
  go_enter Tryz.func100,Tryz.ntmps100
  go_wp2;go_ret;exact⟨rfl,HO.out⟩
 have e1:=emp_no h2;have hq:eqNm ⟨ns,loc⟩ ⟨[],[]⟩=true:=by rw[eqNm_iff];exact h1
 simp only[hq] at hE;clear hr hn hs h1 h2 hq
 go_enter Tryz.func100,Tryz.ntmps100
 go_wp2;go_ret;exact⟨rfl,HO.out⟩
end
section
open Go.RowKit Tk Sx Go.WideShapes

def natVs(l:List Nat):List Value:=l.map fun (p:Nat)=>Value.int .i64 (p:Int)
theorem natVs_len(l:List Nat):(natVs l).length=l.length:=List.length_map ..
theorem natVs_app(a b:List Nat):natVs (a++b)=natVs a++natVs b:=List.map_append ..
theorem natVs_at{l:List Nat}{k p:Nat}(h:l[k]?=some p):(natVs l)[k]?=some (.int .i64 (p:Int)):=by unfold natVs;rw[List.getElem?_map,h];rfl
def Stk(W:World)(base:Nat)(A:Option Addr)(n c:Nat)(l:List Nat):Prop :=
 W.ownsRow base 3 1 (.slice A n c) n (natVs l)∨(c=n∧Reads W W.heap.size 1 A n (natVs l)∧(A=none→n=0)∧∀a,A=some a→base≤a.block∧IsT W a.block 3)
theorem Stk.reads{W:World}{base n c:Nat}{A:Option Addr}{l:List Nat}(h:Stk W base A n c l):Reads W W.heap.size 1 A n (natVs l):=by
 rcases h with h|h
 ·exact Reads.of_own h
 exact h.2.1
theorem Stk.base_{W:World}{base n c:Nat}{A:Option Addr}{l:List Nat}(h:Stk W base A n c l):∀a,A=some a→base≤a.block∧IsT W a.block 3:=by
 rcases h with h|h
 ·intro a ha;subst ha;refine own_isT h a.block ?_
  rcases h.2 with ⟨h0,_⟩|⟨g,cap,cur,e,_⟩
  ·cases h0
  cases e;rfl
 exact h.2.2.2
theorem Stk.kept{W W':World}{base n c:Nat}{A:Option Addr}{l:List Nat}(h:Stk W base A n c l)(hs:W.heap.size≤W'.heap.size)(hb:∀k,k<W.heap.size→IsT W k 3→base≤k→W'.heap[k]?=W.heap[k]?):Stk W' base A n c l:=by
 rcases h with h|⟨h1,h2,h3,h4⟩
 ·refine .inl ⟨h.1,?_⟩
  rcases h.2 with hn|⟨g,cap,cur,e,hg,hh,rest⟩
  ·exact .inl hn
  exact .inr ⟨g,cap,cur,e,hg,(hb g (Array.getElem?_eq_some_iff.1 hh).1 ⟨cur,_,hh⟩ hg).trans hh,rest⟩
 refine .inr ⟨h1,⟨h2.1,fun hn=>?_⟩,h3,fun a ha=>?_⟩
 ·obtain⟨b,off,e,hlt,hc⟩:=h2.2 hn;subst e;obtain⟨g1,g2⟩:=h4 _ rfl;exact⟨b,off,rfl,Nat.lt_of_lt_of_le hlt hs,fun j u hu=>(World.cell?_of_block (hb b hlt g2 g1)).trans (hc j u hu)⟩
 obtain⟨g1,g2⟩:=h4 a ha;obtain⟨cs,fr,g3⟩:=g2;exact⟨g1,cs,fr,(hb _ (Array.getElem?_eq_some_iff.1 g3).1 ⟨cs,fr,g3⟩ g1).trans g3⟩
theorem wpList_append_stk{W:World}{ops:Array Oper}{rest:List Oper}{o:Oper}{a:Act}{Q:Exit→Act→World→Prop}(hgd:o.guard=none)(s x:Operand)(t:TypeId)
  (ho:o.op=.call { callee:=.builtin .append,args:=#[s,x],argTypes:=#[t,t] }) (ht:Tryz.prog.underlying t=some (.slice 3)) (base:Nat) (A:Option Addr) (n c:Nat) (l:List Nat) (p:Nat)
  (hs:a.eval s=.slice A n c) (h:Stk W base A n c l) (hx:a.eval x=.slice (some ⟨W.heap.size,0,none⟩) 1 1) (hn:n≤100000000) (hbase:base≤W.heap.size)
  (hK:∀g cap w' row,w'.ownsRow base 3 1 (.slice (some ⟨g,0,none⟩) (n+1) cap) (n+1) (natVs (l++[p]))→W.grownBy w' row→(∀k,row=some k→base≤k∧IsT W k 3)→
   wpList Tryz.prog ops Q rest (a.put o.dst (.slice (some ⟨g,0,none⟩) (n+1) cap)) w'):wpList Tryz.prog ops Q (o :: rest) a (W.alloc (.cells #[.int .i64 (p:Int)] 3)):=by
 rcases h with h|⟨h1,h2,h3,h4⟩
 ·refine wpList_append_elem W hgd s x t ho base (.int .i64 0) 1 8 ht info_int rfl (by omega) (.slice A n c) n (natVs l) hs h (cs:=[.int .i64 (p:Int)]) rfl (by simp[Value.oneCell']) hx (by unfold maxLen;omega) (by omega) hbase ?_;intro g cap w' hown hgrow _ _ _;exact hK g cap w' _ (by rw[natVs_app];exact hown) hgrow (own_isT h)
 obtain⟨i,hi,hz,hsize,hby⟩:=info_parts info_int;subst h1;refine wpList_append_grows (W.alloc (.cells #[.int .i64 (p:Int)] 3)) hgd s x t ho 3 i (.int .i64 0) 1 8 ht hi hz hsize hby rfl (by omega) A c c (natVs l) hs (fun e=>⟨h3 e,h3 e⟩) (by have:=h2.1;omega) ?_ ⟨W.heap.size,0,none⟩ 1 1 [.int .i64 (p:Int)] hx rfl ?_ (by simp[Value.oneCell']) (by omega) (by unfold maxLen;omega) (by omega) ?_
 ·intro b hb j u hu;have hj:=(List.getElem?_eq_some_iff.1 hu).1;obtain⟨b',off,e,hlt,hc⟩:=h2.2 (by have:=h2.1;omega);rw[hb] at e;cases e;have hc2:=hc j u hu;have h5:(W.alloc (.cells #[.int .i64 (p:Int)] 3)).cell? ⟨b',off+j,none⟩=some u:=(World.cell?_of_block (Below.heap_alloc _ _ _ hlt)).trans hc2;rw[Addr.add_lit];exact h5
 ·intro j u hu;exact World.news_of_block (Blk.new W 3 #[.int .i64 (p:Int)]) j u (by simpa using hu)
 intro v' w' hown hgrow;obtain⟨g,cap,hv,hb,hlt⟩:=hown.form (by omega);subst hv;refine hK g cap w' none (by rw[natVs_app];exact hown.mono (by simp;omega)) ⟨hgrow.os,hgrow.tape,hgrow.output,Nat.le_trans (by simp) hgrow.size,fun k hk _=>?_⟩ (fun k e=>by cases e);exact (hgrow.block k (by simp;omega) (by simp)).trans (Below.heap_alloc W _ k hk)
theorem law_intE:Maps.Keyed Tryz.prog 3:=Maps.int_keyed Tryz.underlying3
def klI(p:Nat):Lit:=.int .i64 (p:Int)
theorem keyOf_int{p:Nat}(h:p≤1000000000):keyOf Tryz.prog 3 (.int .i64 (p:Int))=some (klI p):=by
 exact Maps.keyOf_int_mk Tryz.underlying3 (WalkArith.wf_i64 (by omega))
structure MapI(W:World)(mb n:Nat)(m:List (Nat×Nat))(D:DataW Unit):Prop where
 own:W.ownsMap Tryz.prog 3 (plainElem Tryz.prog 3) mb n D
 is:Maps.IsMap D
 no:∀p,Evs.lookE p m=none→Maps.has D (klI p)=false∧D.atKey (klI p) (.lit (.int .i64 0))=.lit (.int .i64 0)
 yes:∀p k,Evs.lookE p m=some k→Maps.has D (klI p)=true∧D.atKey (klI p) (.lit (.int .i64 0))=.lit (.int .i64 (k:Int))
theorem klI_inj{p q:Nat}(h:klI p=klI q):p=q:=by
 unfold klI at h;injection h with _ h
 omega
theorem MapI.new(w:World):MapI (w.alloc (.map #[] 0)) w.heap.size 0 [] (.map []):=⟨World.ownsMap_made _ _ _ _,Maps.isMap_empty,fun _ _=>⟨rfl,rfl⟩,fun _ _ h=>by cases h⟩
theorem MapI.same{W W':World}{mb n:Nat}{m:List (Nat×Nat)}{D:DataW Unit}(h:MapI W mb n m D)(e:W'.heap[mb]?=W.heap[mb]?):MapI W' mb n m D:=⟨map_same h.own e,h.is,h.no,h.yes⟩
theorem MapI.lt{W:World}{mb n:Nat}{m:List (Nat×Nat)}{D:DataW Unit}(h:MapI W mb n m D):mb<W.heap.size:=h.own.lt
theorem MapI.next{W W':World}{mb n p k:Nat}{m:List (Nat×Nat)}{D:DataW Unit}(h:MapI W mb n m D)(ho:W'.ownsMap Tryz.prog 3 (plainElem Tryz.prog 3) mb (n+1) (D.put (klI p) (.lit (.int .i64 (k:Int))))):MapI W' mb (n+1) ((p,k) :: m) (D.put (klI p) (.lit (.int .i64 (k:Int)))):=by
 refine⟨ho,h.is.put _ _,fun q hq=>?_,fun q k' hq=>?_⟩
 ·unfold Evs.lookE at hq
  split at hq
  ·cases hq
  rename_i hne
  rw[Maps.has_put_other (fun e=>hne (klI_inj e).symm),Maps.atKey_put_other (fun e=>hne (klI_inj e).symm)];exact h.no q hq
 unfold Evs.lookE at hq
 split at hq
 ·rename_i he
  dsimp only at he;subst he;cases hq;refine⟨?_,Maps.atKey_put_same h.is (k:=klI p) (by simp[WideAt.IsKeyLit,klI]) _ _⟩;exact Maps.has_put_same h.is (k:=klI p) (by simp[WideAt.IsKeyLit,klI]) _
 rename_i hne
 rw[Maps.has_put_other (fun e=>hne (klI_inj e).symm),Maps.atKey_put_other (fun e=>hne (klI_inj e).symm)];exact h.yes q k' hq
end
end Go.Proofs.YtifiiojchlaghaaGreatDoor
