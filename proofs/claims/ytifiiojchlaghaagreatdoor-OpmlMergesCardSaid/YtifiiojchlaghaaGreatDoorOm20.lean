/- A call of a function value: it enters the function. And more. -/
import Derived.Test.YtifiiojchlaghaaGreatDoorOm00
import Derived.Test.YtifiiojchlaghaaGreatDoorOm10
import Derived.Test.YtifiiojchlaghaaGreatDoorOm19
import Derived.Laws.EntriesVeiled
import Derived.ArgAppend
set_option linter.unusedSimpArgs false
set_option maxRecDepth 100000
set_option maxHeartbeats 16000000
set_option linter.unusedVariables false
namespace Go.Proofs.YtifiiojchlaghaaGreatDoor
section
open Go Go.RowKit

theorem zL {P : Program} {f : FuncId} {fn : Func} (hf : P.funcs[f]? = some fn) (hname : (fn.name == "runtime.NumGoroutine") = false) (hb : fn.body.isSome = true) (args : Array Value) (w : World) : (callFunc f args).run P w = .ok (.enter f args) w := by
 have h1 : fn.name ≠ "runtime.NumGoroutine" := by simpa using hname
 obtain⟨c,hc⟩:=Option.isSome_iff_exists.1 hb;simp[callFunc,hf,h1,hc]
end
section
open Go.RowKit Tk Sx

def ZX(w:World)(r:Except (Nat×Nat) (List Ev))(e:Ending)(w':World):Prop:=Below w.heap.size w w'∧match r with
 | .error x=>e=.returned (.tuple #[.slice none 0 0,.int .i64 (x.1:Int),.int .i64 (x.2:Int)])
 | .ok evs=>∃xs A c,xs.map (·.e)=evs∧e=.returned (.tuple #[.slice A xs.length c,.int .i64 (-1),.int .i64 0])∧xs.length≤c∧Reads w' w'.heap.size 5 A xs.length (il xs)∧pj w.heap.size A∧Typed w' A 62∧∀x∈xs,x.In w.heap.size w'
theorem ae5{N:Nat}{t:Tok}(h:C9 N t):∃kn:Nat,t.kind=(kn:Int)∧kn<5:=by
 rcases h.kd with h|h|h|h|h
 ·exact⟨0,h,by omega⟩
 ·exact⟨1,h,by omega⟩
 ·exact⟨2,h,by omega⟩
 ·exact⟨3,h,by omega⟩
 exact⟨4,h,by omega⟩
def bound(P:Nat):Array Value:=#[.func (.func 34) #[.pointer (some ⟨P,0,none⟩)] #[],.func (.func 35) #[.pointer (some ⟨P,0,none⟩)] #[],.func (.func 36) #[.pointer (some ⟨P,0,none⟩)] #[],.func (.func 37) #[.pointer (some ⟨P,0,none⟩)] #[],.func (.func 38) #[.pointer (some ⟨P,0,none⟩)] #[]]
theorem aaO{W:World}{K P:Nat}(h:ae W K 82 (bound P)){kn:Nat}(hk:kn<5):W.cell? ⟨K,kn,none⟩=some (.func (.func (xn (kn:Int))) #[.pointer (some ⟨P,0,none⟩)] #[]):=by
 have c0:=h.cell 0;have c1:=h.cell 1;have c2:=h.cell 2;have c3:=h.cell 3;have c4:=h.cell 4
 match kn,hk with
 | 0,_=>exact c0
 | 1,_=>exact c1
 | 2,_=>exact c2
 | 3,_=>exact c3
 | 4,_=>exact c4
theorem aco{kn:Nat}(hk:kn<5)(args:Array Value)(w:World):(callFunc (xn (kn:Int)) args).run Tryz.prog w=.ok (.enter (xn (kn:Int)) args) w:=by
 match kn,hk with
 | 0,_=>exact zL Tryz.func34 (by kernel_rfl) (by kernel_rfl) _ _
 | 1,_=>exact zL Tryz.func35 (by kernel_rfl) (by kernel_rfl) _ _
 | 2,_=>exact zL Tryz.func36 (by kernel_rfl) (by kernel_rfl) _ _
 | 3,_=>exact zL Tryz.func37 (by kernel_rfl) (by kernel_rfl) _ _
 | 4,_=>exact zL Tryz.func38 (by kernel_rfl) (by kernel_rfl) _ _
theorem PI.zero(B:Nat)(w:World)(hB:B≤w.heap.size):PI B w.heap.size (w.alloc (.cells #[.slice none 0 0,.slice none 0 0,.slice none 0 0,.bool false,.pointer none] 80)) lU none ⟨none,0,none,0,none,0,.pointer none,[]⟩ :=
 ⟨ae.new w 80 _,hB,World.ownsRow_nil _ _ _ _,World.ownsRow_nil _ _ _ _,World.ownsRow_nil _ _ _ _,rfl,fun x hx=>(by cases hx),rfl⟩

theorem Iw{s:L}{ts:List Tok}{n:Nat}{ok:Bool}(h:yz s ts n ok):jA s.length 0 s=ts∧MF ts=n∧ok=decide (n=s.length):=h
theorem agE(s:ByteArray)(w:World)(hg:Gl w)(jM:6≤w.heap.size)(hs:s.size≤100000)(tq:fine s.data.toList=true)(AY:wX s.data.toList)(xS:zx s.data.toList) :
  Calls Tryz.prog 20 #[.string s] w (ZX w (Sx.parse s.data.toList)):=by
 have a8:=hide (IB s w (by omega));have HT:=hide (fun W (h:Below w.heap.size w W)=>akc W s (hg.below h) (Nat.le_trans jM h.size) (by omega) AY);obtain⟨D,hD⟩:∃D,s.data.toList=D:=⟨_,rfl⟩;rw[hD] at a8 HT tq xS ⊢;have HS:=hide xS;have cu:=hide (show D.length=s.size by rw[←hD,b9]);have HG:=hide hg;obtain⟨R,hR⟩:∃R,Sx.parse D=R:=⟨_,rfl⟩;rw[hR];unfold Sx.parse at hR;obtain⟨bd,jn⟩:∃bd,bad D=bd:=⟨_,rfl⟩;rw[jn] at a8 hR;have Za:=hide jn;clear hg hD jn
 have h0:¬0≤bd:=fun h=>by
  have oy:=PY D;rw[tq,Za.out,decide_eq_true h] at oy;cases oy
 rw[if_neg h0] at hR;have HR:=hide hR;have hd:decide ((0:Int)≤bd)=false:=decide_eq_false h0;clear hR h0 tq xS AY
 go_enter Tryz.func20,Tryz.ntmps20
 go_wp2_with fail
 refine a8.out.mono ?_;rintro e w1 ⟨rfl,b1⟩;have B1:=hide b1;clear b1
 go_wp2_with fail
 refine (HT.out _ B1.out).mono ?_;rintro e w2 ⟨xs,A,c,n,ok,hP,jw,rE,rfl,b2,hr,-,-,hi⟩;have B2:=hide (B1.out.trans (b2.mono B1.out.size));have HP:=hide hP;have uy:=hide (zC.of hr hi);obtain⟨N,hN⟩:∃N,xs.length=N:=⟨_,rfl⟩;have HN:=hide hN;rw[hN] at jw rE ⊢;have CZ:=hide jw;have Hxc:=hide rE;clear hP hr hi b2 hN jw rE
 cases ok with
 | false=>
  go_wp2;go_ret3
  have xy:R=.error (n,50):=by
   obtain⟨h1,h2,h3⟩:=Iw HP.out;rw[←HR.out,h1,h2,if_pos (by simpa using h3)]
  rw[xy];exact⟨B2.out,rfl⟩
 | true=>
  have I0:=hide ((PI.zero w2.heap.size w2 (Nat.le_refl _)).go (aA _ (.cells (bound w2.heap.size) 82)));have k0:=ae.new (w2.alloc (.cells #[.slice none 0 0,.slice none 0 0,.slice none 0 0,.bool false,.pointer none] 80)) 82 (bound w2.heap.size);rw[World.size_alloc] at k0;have K0:=hide k0;have T0:=hide (((Below.refl _ w2).alloc (Nat.le_refl _) (.cells #[.slice none 0 0,.slice none 0 0,.slice none 0 0,.bool false,.pointer none] 80)).alloc (by simp) (.cells (bound w2.heap.size) 82));have G2:=hide (HG.out.below B2.out);have H6:=hide (Nat.le_trans jM B2.out.size);clear k0;go_wp2;obtain⟨B,hB⟩:∃B,w2.heap.size=B:=⟨_,rfl⟩;rw[hB] at I0 K0 T0 uy H6 ⊢;have HB:=hide hB;obtain⟨ts,iy⟩:∃ts,xs.map (·.t)=ts:=⟨_,rfl⟩;rw[iy] at HP;have H8:=hide iy;have ug:=hide (show w.heap.size≤B by rw[←hB];exact B2.out.size);have hN5:N≤100000:=by have:=CZ.out;have:=cu.out;omega
  clear hB iy
  go_loopg [39] N (fun gk vk wr=>∃(k:Nat) (st:St) (v:Pv),gk=N-k∧k≤N∧vk=.int .i64 (k:Int)∧run lU (ts.take k)=.ok st∧PI B B wr st none v∧ae wr (B+1) 82 (bound B)∧Below B w2 wr)
  case atStart=>exact⟨0,lU,_,rfl,by omega,rfl,rfl,I0.out,K0.out,T0.out⟩
  case round=>
   obtain⟨k,st,v,aq,hk,rfl,h1,h2,h3,h4⟩:=hrel;have Hg:=hide aq;have H1:=hide h1;have I1:=hide h2;have K1:=hide h3;have T1:=hide h4;have ZQ:=hide (HS.out.ru k st (by rw[HP.out.1];exact h1));clear aq h1 h2 h3 h4 I0 K0 T0
   by_cases hlt:k<N
   ·obtain⟨x,hx⟩:∃x,xs[k]?=some x:=⟨_,List.getElem?_eq_getElem (by rw[HN.out];exact hlt)⟩;obtain⟨b,off,rfl,hb,hat⟩:=uy.out.at_ hx;have iA:x.t∈ts:=by rw[←H8.out];exact List.mem_map_of_mem (List.mem_of_getElem? hx)
    have eR:ts[k]?=some x.t:=by rw[←H8.out,List.getElem?_map,hx];rfl
    have ry:=uy.out.sub x.g (List.mem_map_of_mem (List.mem_of_getElem? hx));have hsm:=HS.out.tk x.t (by rw[HP.out.1];exact iA);obtain⟨kn,vC,Ep⟩:=ae5 hsm;have y0:wr.cell? ⟨b,off+k*7,none⟩=some (.int .i8 (kn:Int)):=by rw[←vC];exact (T1.out.cell (p:=⟨b,off+k*7,none⟩) hb).trans hat.c0
    have yf:=aaO K1.out Ep;have ht:qL B wr b (off+k*7) x.t:=⟨hb,(T1.out.cell (p:=⟨b,off+k*7+1,none⟩) hb).trans hat.c1,(T1.out.cell (p:=⟨b,off+k*7+3,none⟩) hb).trans hat.c3,(T1.out.cell (p:=⟨b,off+k*7+4,none⟩) hb).trans hat.c4,(T1.out.cell (p:=⟨b,off+k*7+5,none⟩) hb).trans hat.c5⟩
    have iU:wr.cell? ⟨b,off+k*7+2,none⟩=some (.slice x.A x.t.attrs.length x.c):=by
     have:=(T1.out.cell (p:=⟨b,off+k*7+2,none⟩) hb).trans hat.c2;rwa[show x.g.aw.length=x.t.attrs.length from List.length_map _] at this
    have lM:Reads wr B 3 x.A x.t.attrs.length (ln (x.t.attrs.map At.g)):=by
     have:=ry.below T1.out;rwa[show x.g.aw.length=x.t.attrs.length from List.length_map _] at this
    have sW:=ajw B B wr.drew st v b (off+k*7) x.t x.A x.c (I1.out.go (Below.refl _ _).drew) (by rw[←HB.out];exact T1.out.size) H6.out ((G2.out.below (by rw[HB.out];exact T1.out)).below (Below.refl _ _).drew) ⟨ht.lt,ht.c1,ht.c3,ht.c4,ht.c5⟩ iU lM hsm ZQ.out;rw[vC] at sW;have HSt:=hide sW;have G6:=hide (show run lU (ts.take (k+1))=Sx.step st x.t by rw[List.take_add_one,eR];show run lU (ts.take k++[x.t])=_;rw[ail,H1.out]);have Pn:=hide hsm;have Au:=fun args w=>aco Ep args w;generalize xn (kn:Int)=fn at *
    obtain⟨r,hr⟩:∃r,Sx.step st x.t=r:=⟨_,rfl⟩;have Hr:=hide hr;rw[hr] at HSt G6;clear hat hx iA eR ry hsm vC ht iU lM sW hr
    cases r with
    | error y=>
     have xy:R=.error y:=by
      obtain⟨q1,q2,q3⟩:=Iw HP.out;have:=aik G6.out (ts.drop (k+1));rw[List.take_append_drop] at this;rw[←HR.out,q1,q2,if_neg (by simpa using q3),this]
     subst xy;go_wp2
     go_region_with (refine HSt.out.mono ?_;rintro e w3 ⟨rfl,hm,iH,v',hp⟩)
     all_goals
      have c4:=hp.c4;obtain⟨F,hF,RB,JE⟩:=hp.bad;rw[RB] at c4;have z0:=JE.cell 0;have z1:=JE.cell 1;have M3:=hide hm;have Ia:=hide (show B≤wr.heap.size by rw[←HB.out];exact T1.out.size);clear hp hF RB JE hm;go_wp2
      go_quiet (fail)
      go_wp2;go_ret3;exact⟨below_drewN (B2.out.trans ((T1.out.trans (((aH.refl B B wr).drew.trans M3.out).below (C:=B) (Nat.le_refl _) (Nat.le_refl _) Ia.out)).mono ug.out)) _,rfl⟩
    | ok iH=>
     go_wp2
     go_region_with (refine HSt.out.mono ?_;rintro e w3 ⟨rfl,hm,v',hp⟩)
     all_goals
      have c4:=hp.c4;rw[hp.tX] at c4;have P3:=hide hp;have M3:=hide hm;have Ia:=hide (show B≤wr.heap.size by rw[←HB.out];exact T1.out.size);clear hp hm;go_wp2
      go_roundg (N-(k+1))
      case measure=>have:=Hg.out;omega
      case rel=>
       have SU:aH B B wr w3:=(aH.refl B B wr).drew.trans M3.out;exact⟨k+1,iH,v',rfl,by omega,by first|rfl|go_num,G6.out,P3.out,SU.blk K1.out (by omega) (by decide),T1.out.trans (SU.below (Nat.le_refl _) (Nat.le_refl _) Ia.out)⟩
   have nr:k=N:=by omega
   subst nr;have hall:ts.take k=ts:=List.take_of_length_le (by rw[←H8.out,List.length_map,HN.out];exact Nat.le_refl _);have hrun:=H1.out;rw[hall] at hrun
   have xy:R=if st.open_=[]∧st.gL=true then .ok st.evs else .error (D.length,50):=by
    obtain⟨q1,q2,q3⟩:=Iw HP.out;rw[←HR.out,q1,q2,if_neg (by simpa using q3),hrun]
   have GA:=hide xy;have c0:=I1.out.c;have c3:=I1.out.c3;obtain⟨no,hno⟩:∃no,st.open_.length=no:=⟨_,rfl⟩;have fH:=hide hno;rw[hno] at c0;obtain⟨ro,hro⟩:∃ro,st.gL=ro:=⟨_,rfl⟩;have jC:=hide hro;rw[hro] at c3;have yB:=hide (B2.out.trans (T1.out.mono (by have:=B2.out.size;have:=HB.out;omega)));clear hall hrun xy hno hro HR
   by_cases h0:no=0
   ·subst h0;have ho:st.open_=[]:=List.eq_nil_of_length_eq_zero fH.out
    cases ro with
    | true=>
     have fM:R=.ok st.evs:=by rw[GA.out,if_pos ⟨ho,jC.out⟩]
     have c2:=I1.out.c2;obtain⟨ne,hne⟩:∃ne,v.xs.length=ne:=⟨_,rfl⟩;rw[hne] at c2;have Zo:=hide hne;subst fM;clear ho hne;go_wp2;go_ret3;refine⟨yB.out,v.xs,v.Ae,v.ce,I1.out.ev,?_,yo I1.out.e,Reads.dA I1.out.e,(zD I1.out.e).more ug.out,Cb I1.out.e,fun x hx=>⟨(I1.out.gX x hx).a,(I1.out.gX x hx).va.more ug.out,(I1.out.gX x hx).ta⟩⟩;rw[Zo.out];rfl
    | false=>
     have fM:R=.error (s.size,50):=by rw[GA.out,if_neg (by rw[jC.out];simp),cu.out]
     subst fM;clear ho;go_wp2;go_ret3;exact⟨yB.out,rfl⟩
   have fM:R=.error (s.size,50):=by rw[GA.out,if_neg (by intro h;apply h0;rw[←fH.out,h.1];rfl),cu.out]
   have oD:0<no:=by omega
   subst fM;clear h0;go_wp2;go_ret3;exact⟨yB.out,rfl⟩
end
section
open Go.RowKit Tk Sx

structure XO(w:World)(b o:Nat)(x:Ew):Prop where
 c0:w.cell? ⟨b,o,none⟩=some (.int .i8 (x.e.kind:Int))
 c1:w.cell? ⟨b,o+1,none⟩=some (.string (aa x.e.name.ns))
 c2:w.cell? ⟨b,o+2,none⟩=some (.string (aa x.e.name.loc))
 c3:w.cell? ⟨b,o+3,none⟩=some (.slice x.A x.e.attrs.length x.c)
 c4:w.cell? ⟨b,o+4,none⟩=some (.string (aa x.e.text))
structure XF(w:World)(b o:Nat)(x:fA):Prop where
 c0:w.cell? ⟨b,o,none⟩=some (.string (aa x.name.ns))
 c1:w.cell? ⟨b,o+1,none⟩=some (.string (aa x.name.loc))
 c2:w.cell? ⟨b,o+2,none⟩=some (.string (aa x.val))
structure pk(w:World)(B:Nat)(A:Option Addr)(xs:List Ew):Prop where
 row:Reads w B 5 A xs.length (il xs)
 sub:∀x∈xs,Reads w B 3 x.A x.e.attrs.length (jh x.e.attrs)
section
variable {w w':World} {B B':Nat} {A:Option Addr} {xs:List Ew}
theorem pk.below(h:pk w B A xs)(hb:Below B w w'):pk w' B A xs:=⟨h.row.below hb,fun x hx=>(h.sub x hx).below hb⟩
theorem pk.more(h:pk w B A xs)(hB:B≤B'):pk w B' A xs:=⟨h.row.more hB,fun x hx=>(h.sub x hx).more hB⟩
theorem pk.at_(h:pk w B A xs){k:Nat}{x:Ew}(hx:xs[k]?=some x):∃b off,A=some ⟨b,off,none⟩∧b<B∧XO w b (off+k*5) x:=by
 obtain⟨hk,he⟩:=List.getElem?_eq_some_iff.1 hx;obtain⟨b,off,hA,hb,hc⟩:=h.row.2 (by omega)
 have hf:∀j,j<5→(il xs)[k*5+j]?=(er x)[j]?:=fun j hj=>by
  unfold il;rw[xm DB xs k hk j hj,he]
 refine⟨b,off,hA,hb,?_⟩
 constructor
 ·have:=hc (k*5+0) _ (hf 0 (by omega));simpa using this
 ·have:=hc (k*5+1) _ (hf 1 (by omega));rwa[←Nat.add_assoc] at this
 ·have:=hc (k*5+2) _ (hf 2 (by omega));rwa[←Nat.add_assoc] at this
 ·have:=hc (k*5+3) _ (hf 3 (by omega));rwa[←Nat.add_assoc] at this
 have:=hc (k*5+4) _ (hf 4 (by omega));rwa[←Nat.add_assoc] at this
theorem IA{l:List fA}(h:Reads w B 3 A l.length (jh l)){k:Nat}{x:fA}(hx:l[k]?=some x):∃b off,A=some ⟨b,off,none⟩∧b<B∧XF w b (off+k*3) x:=by
 obtain⟨hk,he⟩:=List.getElem?_eq_some_iff.1 hx;obtain⟨b,off,hA,hb,hc⟩:=h.2 (by omega)
 have hf:∀j,j<3→(jh l)[k*3+j]?=(mh x)[j]?:=fun j hj=>by
  unfold jh;rw[xm aak l k hk j hj,he]
 refine⟨b,off,hA,hb,?_⟩
 constructor
 ·have:=hc (k*3+0) _ (hf 0 (by omega));simpa using this
 ·have:=hc (k*3+1) _ (hf 1 (by omega));rwa[←Nat.add_assoc] at this
 have:=hc (k*3+2) _ (hf 2 (by omega));rwa[←Nat.add_assoc] at this
end
end
section
open Go.RowKit Tk Sx Go.WideShapes

theorem ID(a b:L):((aa a).toList=(aa b).toList)↔a=b:=by
 rw[ByteArray.toList_eq,ByteArray.toList_eq]
 constructor
 ·intro h;exact str_inj (by rw[ByteArray.ext_iff];exact Array.toList_inj.1 h)
 rintro rfl;rfl
def fL(x y:Nm):Bool:=decide (x.ns=y.ns)&&decide (x.loc=y.loc)
theorem zO(x y:Nm):fL x y=true↔x=y:=by
 unfold fL;obtain⟨a,b⟩:=x;obtain⟨a',b'⟩:=y;simp only[Bool.and_eq_true,decide_eq_true_eq,Nm.mk.injEq]
theorem DA(w:World)(x y:Nm):(binOp .eql 57 (.agg #[.string (aa x.ns),.string (aa x.loc)]) (.agg #[.string (aa y.ns),.string (aa y.loc)])).run Tryz.prog w=.ok (.bool (fL x y)) w:=by
 unfold fL;go_simp;simp only[ID];obtain⟨a,b⟩:=x;obtain⟨a',b'⟩:=y;dsimp only
 (repeat' split)<;>simp_all
theorem VG{H:Type}{e:TypeId}(he:Tryz.prog.underlying e=some .bool){v:Value}{z:DataW H×List MemPlace}(h:plainElem Tryz.prog e v=some z):∃x,v=.bool x∧z=(.lit (.bool x),[]):=by
 unfold plainElem at h;rw[he] at h
 cases v<;>simp at h
 subst h;exact⟨_,rfl,rfl⟩
theorem XD(w:World):(zeroValue 4).run Tryz.prog w=.ok (.bool false) w:=by kernel_rfl
structure lf(W:World)(mb n:Nat)(seen:List Nm)(D:DataW Unit):Prop where
 own:W.ownsMap Tryz.prog 57 (plainElem Tryz.prog 4) mb n D
 is:Maps.IsMap D
 ok:∀x:Nm,j7 x→D.atKey (kG x) (.lit (.bool false))=.lit (.bool (decide (x∈seen)))
theorem lf.new(w:World):lf (w.alloc (.map #[] 0)) w.heap.size 0 [] (.map []):=⟨World.ownsMap_made _ _ _ _,Maps.isMap_empty,fun _ _=>by simp[DataW.atKey]⟩
theorem lf.same{W W':World}{mb n:Nat}{seen:List Nm}{D:DataW Unit}(h:lf W mb n seen D)(e:W'.heap[mb]?=W.heap[mb]?):lf W' mb n seen D:=⟨oT h.own e,h.is,h.ok⟩
theorem lf.lt{W:World}{mb n:Nat}{seen:List Nm}{D:DataW Unit}(h:lf W mb n seen D):mb<W.heap.size:=h.own.lt
theorem lf.next{W W':World}{mb n:Nat}{seen:List Nm}{D:DataW Unit}{x:Nm}(h:lf W mb n seen D)(hx:j7 x)(ho:W'.ownsMap Tryz.prog 57 (plainElem Tryz.prog 4) mb (n+1) (D.put (kG x) (.lit (.bool true)))):lf W' mb (n+1) (x :: seen) (D.put (kG x) (.lit (.bool true))):=by
 refine⟨ho,h.is.put _ _,fun y hy=>?_⟩
 by_cases hm:y=x
 ·subst hm;rw[Maps.atKey_put_same h.is (k:=kG y) (by simp[WideAt.IsKeyLit,kG])];simp
 rw[Maps.atKey_put_other (fun e=>hm (Um hy hx e)),h.ok y hy];simp[hm]
theorem lf.find{W:World}{mb n:Nat}{seen:List Nm}{D:DataW Unit}(h:lf W mb n seen D){x:Nm}(hx:j7 x) :
  (Instr.lookup 186 (.map (some mb)) (tS x) false).run Tryz.prog W=.ok (.bool (decide (x∈seen))) W:=by
 obtain⟨v,ps,hrun,hv⟩:=h.own.lookup E4 Tryz.underlying186 (XD W) (plainElem_bool Tryz.underlying4 false) (xY hx);obtain⟨c,rfl,hc⟩:=VG Tryz.underlying4 hv;simp only[Prod.mk.injEq] at hc;have hr:=hc.1;rw[h.ok x hx] at hr;simp only[DataW.lit.injEq,Lit.bool.injEq] at hr;subst hr;exact hrun
theorem uS(t:L):(aa t).toList.isEmpty=t.isEmpty:=by rw[ByteArray.toList_eq];rfl
theorem sM{t:L}(h:t≠[]):(aa t).toList.isEmpty=false:=by
 rw[uS]
 cases t with
 | nil=>exact absurd rfl h
 | cons a t=>rfl
theorem acb(x:Ew)(w:World)(hf:Evs.wG x.e)(hr:Reads w w.heap.size 3 x.A x.e.attrs.length (jh x.e.attrs))(hn:x.e.attrs.length≤1000000)(hs:∀a∈x.e.attrs,j7 a.name) :
  Calls Tryz.prog 100 #[.agg (er x).toArray] w fun e w'=>e=.returned (.bool true)∧Below w.heap.size w w':=by
 obtain⟨⟨kd,⟨ns,loc⟩,aw,tx⟩,A,c⟩:=x;dsimp only at hf hr hn hs;have HO:=hide (aA w (.cells (er ⟨⟨kd,⟨ns,loc⟩,aw,tx⟩,A,c⟩).toArray 62));have HT:=hide (ae.new w 62 (er ⟨⟨kd,⟨ns,loc⟩,aw,tx⟩,A,c⟩).toArray);have hE:∀W:World,(binOp .eql 57 (.agg #[.string (aa ns),.string (aa loc)]) (.agg #[.string ⟨#[]⟩,.string ⟨#[]⟩])).run Tryz.prog W=.ok (.bool (fL ⟨ns,loc⟩ ⟨[],[]⟩)) W:=fun W=>DA W ⟨ns,loc⟩ ⟨[],[]⟩;unfold Evs.wG Fa at hf;unfold er at HO HT ⊢;dsimp only at hf hE HO HT ⊢;have t0:=HT.out.cell 0;have t1:=HT.out.cell 1;have t2:=HT.out.cell 2;have t3:=HT.out.cell 3;have t4:=HT.out.cell 4
 rcases hf with ⟨rfl,h1,h2,h3,h4⟩|⟨rfl,h1,rfl,rfl⟩|⟨rfl,h1,rfl,h2⟩
 ·have e1:=sM h1;have hq:fL ⟨ns,loc⟩ ⟨[],[]⟩=false:=by unfold fL;rw[decide_eq_false (p:=loc=[]) h1];simp
  simp only[hq] at hE;subst h2;rw[show ((0:Nat):Int)=0 from rfl] at HO HT t0 ⊢;have Hr:=hide hr;have Hs:=hide hs;have Zn:=hide h3;have Pa:=hide h4;have ir:=@run_makeMap Tryz.prog;have qj:=hide (lf.new (w.alloc (.cells #[.int .i8 0,.string (aa ns),.string (aa loc),.slice A aw.length c,.string (aa [])] 62)));have kR:=hide (HO.out.trans ((aA (w.alloc (.cells #[.int .i8 0,.string (aa ns),.string (aa loc),.slice A aw.length c,.string (aa [])] 62)) (.map #[] 0)).mono (by simp)));have eD:=hide (HT.out.alloc (.map #[] 0));rw[World.size_alloc] at qj;obtain⟨N,hN⟩:∃N,aw.length=N:=⟨_,rfl⟩;have HN:=hide hN;rw[hN] at HT HO qj kR eD Hr hn t3 ⊢;have m1:=eD.out.cell 0;have m2:=eD.out.cell 1;have m3:=eD.out.cell 2;have m4:=eD.out.cell 3;have m5:=eD.out.cell 4;clear hr hs h1 h3 h4 hq hN
  go_enter Tryz.func100,Tryz.ntmps100
  go_wp2;clear t0 t1 t2 t3 t4 m1 m2 m3 m4 m5 ir hE;obtain⟨W0,oq⟩:∃W0,(w.alloc (.cells #[.int .i8 0,.string (aa ns),.string (aa loc),.slice A N c,.string (aa [])] 62)).alloc (.map #[] 0)=W0:=⟨_,rfl⟩;rw[oq] at qj kR eD ⊢;have hz0:W0.heap.size=w.heap.size+2:=by rw[←oq];simp
  clear oq
  go_loopg [50,6] N (fun gk v50 v6 wr=>∃(i:Nat) (D:DataW Unit),v50=.int .i64 (i:Int)∧gk=N-i∧i≤N∧lf wr (w.heap.size+1) i ((aw.take i).map (·.name)).reverse D∧Below w.heap.size w wr∧ae wr w.heap.size 62 #[.int .i8 0,.string (aa ns),.string (aa loc),.slice A N c,.string (aa [])])
  case atStart=>exact⟨0,_,rfl,rfl,by omega,qj.out,kR.out,eD.out⟩
  case round=>
   obtain⟨i,D,rfl,aq,hi,oH,hb,ht⟩:=hrel;have eM:=hide aq;have su:=hide oH;have HB:=hide hb;have lZ:=hide ht;clear aq oH hb ht
   by_cases hlt:i<N
   ·obtain⟨a,ha⟩:∃a,aw[i]?=some a:=⟨_,List.getElem?_eq_getElem (by rw[HN.out];exact hlt)⟩;have eQ:Reads wr w.heap.size 3 A aw.length (jh aw):=by rw[HN.out];exact Hr.out.below HB.out
    obtain⟨b,off,rfl,jl,hx⟩:=IA eQ ha;have x0:=hx.c0;have x1:=hx.c1;have x2:=hx.c2;have hsm:=Hs.out a (List.mem_of_getElem? ha);have el:=sM (Pa.out a (List.mem_of_getElem? ha))
    have xP:decide (a.name∈((aw.take i).map (·.name)).reverse)=false:=by
     refine decide_eq_false fun h=>?_;rw[List.mem_reverse] at h;obtain⟨y,hy,e⟩:=List.mem_map.1 h;obtain⟨k,hk,e2⟩:=List.getElem_of_mem hy;rw[List.length_take] at hk;rw[List.getElem_take] at e2;have AH:k<i:=by omega
     have pM:=List.pairwise_iff_getElem.1 (List.nodup_iff_pairwise_ne.1 Zn.out) k i (by rw[List.length_map];omega) (by rw[List.length_map,HN.out];exact hlt) AH;rw[List.getElem_map,List.getElem_map,e2,e] at pM;exact pM (by rw[(List.getElem?_eq_some_iff.1 ha).2])
    have hC:=aA wr (.cells #[.string (aa a.name.ns),.string (aa a.name.loc),.string (aa a.val)] 125);have Kg:=(su.out.same (hC.block _ su.out.lt)).find hsm;rw[xP] at Kg;unfold tS at Kg;have OA:=hide hsm;have HC:=hide hC;have wW:=hide (show ((aw.take (i+1)).map (·.name)).reverse=a.name :: ((aw.take i).map (·.name)).reverse by rw[List.take_add_one,ha];simp);have eF:i<maxLen:=by unfold maxLen;omega
    have HK:=hide (ae.new wr 125 #[.string (aa a.name.ns),.string (aa a.name.loc),.string (aa a.val)]);clear ha eQ hx xP hsm hC;obtain⟨⟨an,al⟩,av⟩:=a;dsimp only at x0 x1 x2 el Kg
    go_wp2_with (at_mapUpdate;refine wpList_mapUpdate_own _ rfl _ _ _ 186 rfl 57 4 E4 Tryz.underlying186 _ (w.heap.size+1) i D rfl (su.out.same (HC.out.block _ su.out.lt)).own eF _ _ _ (by rfl) (by rfl) (xY (x:=⟨an,al⟩) OA.out) _ [] (plainElem_bool Tryz.underlying4 true) ?_;intro w8 aN aF;have GD:=hide ((su.out.same (HC.out.block _ su.out.lt)).next OA.out aN);have dH:=hide aF;clear aN aF)
    go_roundg (N-(i+1))
    case measure=>have:=eM.out;omega
    case rel=>
     refine⟨i+1,_,by first|rfl|go_num,rfl,by omega,by rw[wW.out];exact GD.out,?_,?_⟩
     ·exact (HB.out.trans (HC.out.mono HB.out.size)).grown dH.out (HB.out.trans (HC.out.mono HB.out.size)).size (fun k e=>by injection e with e;omega)
     exact (lZ.out.go HC.out).grown dH.out (by intro e;injection e with e;omega)
   have t1:=lZ.out.cell 1;have t2:=lZ.out.cell 2;have t4:=lZ.out.cell 4;have e2:(aa ([]:L)).toList.isEmpty=true:=uS [];go_wp2;go_ret;exact⟨rfl,HB.out⟩
 ·have e1:=sM h1;have hq:fL ⟨ns,loc⟩ ⟨[],[]⟩=false:=by unfold fL;rw[decide_eq_false (p:=loc=[]) h1];simp
  simp only[hq] at hE;have e2:(aa ([]:L)).toList.isEmpty=true:=uS [];clear hr hn hs h1 hq
  go_enter Tryz.func100,Tryz.ntmps100
  go_wp2;go_ret;exact⟨rfl,HO.out⟩
 have e1:=sM h2;have hq:fL ⟨ns,loc⟩ ⟨[],[]⟩=true:=by rw[zO];exact h1
 simp only[hq] at hE;clear hr hn hs h1 h2 hq
 go_enter Tryz.func100,Tryz.ntmps100
 go_wp2;go_ret;exact⟨rfl,HO.out⟩
end
section
open Go.RowKit Tk Sx Go.WideShapes

def nC(l:List Nat):List Value:=l.map fun (p:Nat)=>Value.int .i64 (p:Int)
theorem afN(l:List Nat):(nC l).length=l.length:=List.length_map ..
theorem LM(a b:List Nat):nC (a++b)=nC a++nC b:=List.map_append ..
theorem afM{l:List Nat}{k p:Nat}(h:l[k]?=some p):(nC l)[k]?=some (.int .i64 (p:Int)):=by unfold nC;rw[List.getElem?_map,h];rfl
def j8(W:World)(base:Nat)(A:Option Addr)(n c:Nat)(l:List Nat):Prop :=
 W.ownsRow base 3 1 (.slice A n c) n (nC l)∨(c=n∧Reads W W.heap.size 1 A n (nC l)∧(A=none→n=0)∧∀a,A=some a→base≤a.block∧bJ W a.block 3)
theorem j8.reads{W:World}{base n c:Nat}{A:Option Addr}{l:List Nat}(h:j8 W base A n c l):Reads W W.heap.size 1 A n (nC l):=by
 rcases h with h|h
 ·exact Reads.dA h
 exact h.2.1
theorem j8.aaE{W:World}{base n c:Nat}{A:Option Addr}{l:List Nat}(h:j8 W base A n c l):∀a,A=some a→base≤a.block∧bJ W a.block 3:=by
 rcases h with h|h
 ·intro a ha;subst ha;refine aI h a.block ?_
  rcases h.2 with ⟨h0,_⟩|⟨g,cap,cur,e,_⟩
  ·cases h0
  cases e;rfl
 exact h.2.2.2
theorem j8.kept{W W':World}{base n c:Nat}{A:Option Addr}{l:List Nat}(h:j8 W base A n c l)(hs:W.heap.size≤W'.heap.size)(hb:∀k,k<W.heap.size→bJ W k 3→base≤k→W'.heap[k]?=W.heap[k]?):j8 W' base A n c l:=by
 rcases h with h|⟨h1,h2,h3,h4⟩
 ·refine .inl ⟨h.1,?_⟩
  rcases h.2 with hn|⟨g,cap,cur,e,hg,hh,rest⟩
  ·exact .inl hn
  exact .inr ⟨g,cap,cur,e,hg,(hb g (Array.getElem?_eq_some_iff.1 hh).1 ⟨cur,_,hh⟩ hg).trans hh,rest⟩
 refine .inr ⟨h1,⟨h2.1,fun hn=>?_⟩,h3,fun a ha=>?_⟩
 ·obtain⟨b,off,e,hlt,hc⟩:=h2.2 hn;subst e;obtain⟨g1,g2⟩:=h4 _ rfl;exact⟨b,off,rfl,Nat.lt_of_lt_of_le hlt hs,fun j u hu=>(World.cell?_of_block (hb b hlt g2 g1)).trans (hc j u hu)⟩
 obtain⟨g1,g2⟩:=h4 a ha;obtain⟨cs,fr,g3⟩:=g2;exact⟨g1,cs,fr,(hb _ (Array.getElem?_eq_some_iff.1 g3).1 ⟨cs,fr,g3⟩ g1).trans g3⟩
theorem Xy{W:World}{ops:Array Oper}{rest:List Oper}{o:Oper}{a:Act}{Q:Exit→Act→World→Prop}(hgd:o.guard=none)(s x:Operand)(t:TypeId)
  (ho:o.op=.call { callee:=.builtin .append,args:=#[s,x],argTypes:=#[t,t] }) (ht:Tryz.prog.underlying t=some (.slice 3)) (base:Nat) (A:Option Addr) (n c:Nat) (l:List Nat) (p:Nat)
  (hs:a.eval s=.slice A n c) (h:j8 W base A n c l) (hx:a.eval x=.slice (some ⟨W.heap.size,0,none⟩) 1 1) (hn:n≤100000000) (hbase:base≤W.heap.size)
  (hK:∀g cap w' row,w'.ownsRow base 3 1 (.slice (some ⟨g,0,none⟩) (n+1) cap) (n+1) (nC (l++[p]))→W.grownBy w' row→(∀k,row=some k→base≤k∧bJ W k 3)→
   wpList Tryz.prog ops Q rest (a.put o.dst (.slice (some ⟨g,0,none⟩) (n+1) cap)) w'):wpList Tryz.prog ops Q (o :: rest) a (W.alloc (.cells #[.int .i64 (p:Int)] 3)):=by
 rcases h with h|⟨h1,h2,h3,h4⟩
 ·refine fy W hgd s x t ho base (.int .i64 0) 1 8 ht fU rfl (by omega) (.slice A n c) n (nC l) hs h (cs:=[.int .i64 (p:Int)]) rfl (by simp[Value.oneCell']) hx (by unfold maxLen;omega) (by omega) hbase ?_;intro g cap w' hown hgrow _ _ _;exact hK g cap w' _ (by rw[LM];exact hown) hgrow (aI h)
 obtain⟨i,hi,hz,hsize,hby⟩:=info_parts fU;subst h1;refine wpList_append_grows (W.alloc (.cells #[.int .i64 (p:Int)] 3)) hgd s x t ho 3 i (.int .i64 0) 1 8 ht hi hz hsize hby rfl (by omega) A c c (nC l) hs (fun e=>⟨h3 e,h3 e⟩) (by have:=h2.1;omega) ?_ ⟨W.heap.size,0,none⟩ 1 1 [.int .i64 (p:Int)] hx rfl ?_ (by simp[Value.oneCell']) (by omega) (by unfold maxLen;omega) (by omega) ?_
 ·intro b hb j u hu;have hj:=(List.getElem?_eq_some_iff.1 hu).1;obtain⟨b',off,e,hlt,hc⟩:=h2.2 (by have:=h2.1;omega);rw[hb] at e;cases e;have bk:=hc j u hu;have h5:(W.alloc (.cells #[.int .i64 (p:Int)] 3)).cell? ⟨b',off+j,none⟩=some u:=(World.cell?_of_block (Below.heap_alloc _ _ _ hlt)).trans bk;rw[Addr.add_lit];exact h5
 ·intro j u hu;exact World.news_of_block (ae.new W 3 #[.int .i64 (p:Int)]) j u (by simpa using hu)
 intro v' w' hown hgrow;obtain⟨g,cap,hv,hb,hlt⟩:=hown.form (by omega);subst hv;refine hK g cap w' none (by rw[LM];exact hown.mono (by simp;omega)) ⟨hgrow.os,hgrow.tape,hgrow.output,Nat.le_trans (by simp) hgrow.size,fun k hk _=>?_⟩ (fun k e=>by cases e);exact (hgrow.block k (by simp;omega) (by simp)).trans (Below.heap_alloc W _ k hk)
theorem pV:Maps.Keyed Tryz.prog 3:=Maps.int_keyed Tryz.underlying3
def jO(p:Nat):Lit:=.int .i64 (p:Int)
theorem keyOf_int{p:Nat}(h:p≤1000000000):keyOf Tryz.prog 3 (.int .i64 (p:Int))=some (jO p):=by
 exact Maps.keyOf_int_mk Tryz.underlying3 (WalkArith.wf_i64 (by omega))
structure fZ(W:World)(mb n:Nat)(m:List (Nat×Nat))(D:DataW Unit):Prop where
 own:W.ownsMap Tryz.prog 3 (plainElem Tryz.prog 3) mb n D
 is:Maps.IsMap D
 no:∀p,Evs.bO p m=none→Maps.has D (jO p)=false∧D.atKey (jO p) (.lit (.int .i64 0))=.lit (.int .i64 0)
 yes:∀p k,Evs.bO p m=some k→Maps.has D (jO p)=true∧D.atKey (jO p) (.lit (.int .i64 0))=.lit (.int .i64 (k:Int))
theorem E2{p q:Nat}(h:jO p=jO q):p=q:=by
 unfold jO at h;injection h with _ h
 omega
theorem fZ.new(w:World):fZ (w.alloc (.map #[] 0)) w.heap.size 0 [] (.map []):=⟨World.ownsMap_made _ _ _ _,Maps.isMap_empty,fun _ _=>⟨rfl,rfl⟩,fun _ _ h=>by cases h⟩
theorem fZ.same{W W':World}{mb n:Nat}{m:List (Nat×Nat)}{D:DataW Unit}(h:fZ W mb n m D)(e:W'.heap[mb]?=W.heap[mb]?):fZ W' mb n m D:=⟨oT h.own e,h.is,h.no,h.yes⟩
theorem fZ.lt{W:World}{mb n:Nat}{m:List (Nat×Nat)}{D:DataW Unit}(h:fZ W mb n m D):mb<W.heap.size:=h.own.lt
theorem fZ.next{W W':World}{mb n p k:Nat}{m:List (Nat×Nat)}{D:DataW Unit}(h:fZ W mb n m D)(ho:W'.ownsMap Tryz.prog 3 (plainElem Tryz.prog 3) mb (n+1) (D.put (jO p) (.lit (.int .i64 (k:Int))))):fZ W' mb (n+1) ((p,k) :: m) (D.put (jO p) (.lit (.int .i64 (k:Int)))):=by
 refine⟨ho,h.is.put _ _,fun q hq=>?_,fun q k' hq=>?_⟩
 ·unfold Evs.bO at hq
  split at hq
  ·cases hq
  rename_i hne
  rw[Maps.has_put_other (fun e=>hne (E2 e).symm),Maps.atKey_put_other (fun e=>hne (E2 e).symm)];exact h.no q hq
 unfold Evs.bO at hq
 split at hq
 ·rename_i he
  dsimp only at he;subst he;cases hq;refine⟨?_,Maps.atKey_put_same h.is (k:=jO p) (by simp[WideAt.IsKeyLit,jO]) _ _⟩;exact Maps.has_put_same h.is (k:=jO p) (by simp[WideAt.IsKeyLit,jO]) _
 rename_i hne
 rw[Maps.has_put_other (fun e=>hne (E2 e).symm),Maps.atKey_put_other (fun e=>hne (E2 e).symm)];exact h.yes q k' hq
end
end Go.Proofs.YtifiiojchlaghaaGreatDoor
