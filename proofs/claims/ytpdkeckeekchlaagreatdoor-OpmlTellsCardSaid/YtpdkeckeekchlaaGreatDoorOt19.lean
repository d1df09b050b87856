/- A call of a function value: it enters the function. And more. -/
import Derived.Test.YtpdkeckeekchlaaGreatDoorOt18
import Derived.ArgAppend
set_option linter.unusedSimpArgs false
set_option maxRecDepth 100000
set_option maxHeartbeats 16000000
set_option linter.unusedVariables false
namespace Go.Proofs.YtpdkeckeekchlaaGreatDoor
section
open Go Go.RowKit

theorem AJ {P : Program} {f : FuncId} {fn : Func} (hf : P.funcs[f]? = some fn) (hname : (fn.name == "runtime.NumGoroutine") = false) (hb : fn.body.isSome = true) (args : Array Value) (w : World) : (callFunc f args).run P w = .ok (.enter f args) w := by
 have h1 : fn.name ≠ "runtime.NumGoroutine" := by simpa using hname
 obtain⟨c,hc⟩:=Option.isSome_iff_exists.1 hb;simp[callFunc,hf,h1,hc]
end
section
open Go.RowKit Tk Sx

def abL(w:World)(r:Except (Nat×Nat) (List Ev))(e:Ending)(w':World):Prop:=Below w.heap.size w w'∧match r with
 | .error x=>e=.returned (.tuple #[.slice none 0 0,.int .i64 (x.1:Int),.int .i64 (x.2:Int)])
 | .ok evs=>∃xs A c,xs.map (·.e)=evs∧e=.returned (.tuple #[.slice A xs.length c,.int .i64 (-1),.int .i64 0])∧xs.length≤c∧Reads w' w'.heap.size 5 A xs.length (ik xs)∧px w.heap.size A∧Typed w' A 79∧∀x∈xs,x.In w.heap.size w'
theorem ahd{N:Nat}{t:Tok}(h:Eh N t):∃kn:Nat,t.kind=(kn:Int)∧kn<5:=by
 rcases h.kd with h|h|h|h|h
 ·exact⟨0,h,by omega⟩
 ·exact⟨1,h,by omega⟩
 ·exact⟨2,h,by omega⟩
 ·exact⟨3,h,by omega⟩
 exact⟨4,h,by omega⟩
def bound(P:Nat):Array Value:=#[.func (.func 49) #[.pointer (some ⟨P,0,none⟩)] #[],.func (.func 50) #[.pointer (some ⟨P,0,none⟩)] #[],.func (.func 51) #[.pointer (some ⟨P,0,none⟩)] #[],.func (.func 52) #[.pointer (some ⟨P,0,none⟩)] #[],.func (.func 53) #[.pointer (some ⟨P,0,none⟩)] #[]]
theorem acF{W:World}{K P:Nat}(h:ae W K 109 (bound P)){kn:Nat}(hk:kn<5):W.cell? ⟨K,kn,none⟩=some (.func (.func (xX (kn:Int))) #[.pointer (some ⟨P,0,none⟩)] #[]):=by
 have c0:=h.cell 0;have c1:=h.cell 1;have c2:=h.cell 2;have c3:=h.cell 3;have c4:=h.cell 4
 match kn,hk with
 | 0,_=>exact c0
 | 1,_=>exact c1
 | 2,_=>exact c2
 | 3,_=>exact c3
 | 4,_=>exact c4
theorem aet{kn:Nat}(hk:kn<5)(args:Array Value)(w:World):(callFunc (xX (kn:Int)) args).run Tryz.prog w=.ok (.enter (xX (kn:Int)) args) w:=by
 match kn,hk with
 | 0,_=>exact AJ Tryz.func49 (by kernel_rfl) (by kernel_rfl) _ _
 | 1,_=>exact AJ Tryz.func50 (by kernel_rfl) (by kernel_rfl) _ _
 | 2,_=>exact AJ Tryz.func51 (by kernel_rfl) (by kernel_rfl) _ _
 | 3,_=>exact AJ Tryz.func52 (by kernel_rfl) (by kernel_rfl) _ _
 | 4,_=>exact AJ Tryz.func53 (by kernel_rfl) (by kernel_rfl) _ _
theorem PI.zero(B:Nat)(w:World)(hB:B≤w.heap.size):PI B w.heap.size (w.alloc (.cells #[.slice none 0 0,.slice none 0 0,.slice none 0 0,.bool false,.pointer none] 107)) lZ none ⟨none,0,none,0,none,0,.pointer none,[]⟩ :=
 ⟨ae.new w 107 _,hB,World.ownsRow_nil _ _ _ _,World.ownsRow_nil _ _ _ _,World.ownsRow_nil _ _ _ _,rfl,fun x hx=>(by cases hx),rfl⟩

theorem JS{s:L}{ts:List Tok}{n:Nat}{ok:Bool}(h:zu s ts n ok):jD s.length 0 s=ts∧N9 ts=n∧ok=decide (n=s.length):=h
theorem aiZ(s:ByteArray)(w:World)(hg:Gl w)(jO:6≤w.heap.size)(hs:s.size≤300000)(tL:fine s.data.toList=true)(BU:xI s.data.toList)(yC:Aw s.data.toList) :
  Calls Tryz.prog 30 #[.string s] w (abL w (Sx.parse s.data.toList)):=by
 have a8:=ap (JW s w (by omega));have HT:=ap (fun W (h:Below w.heap.size w W)=>amQ W s (hg.below h) (Nat.le_trans jO h.size) (by omega) BU);obtain⟨D,hD⟩:∃D,s.data.toList=D:=⟨_,rfl⟩;rw[hD] at a8 HT tL yC ⊢;have HS:=ap yC;have cy:=ap (show D.length=s.size by rw[←hD,bV]);have HG:=ap hg;obtain⟨R,hR⟩:∃R,Sx.parse D=R:=⟨_,rfl⟩;rw[hR];unfold Sx.parse at hR;obtain⟨bd,jq⟩:∃bd,bad D=bd:=⟨_,rfl⟩;rw[jq] at a8 hR;have Hbd:=ap jq;clear hg hD jq
 have h0:¬0≤bd:=fun h=>by
  have oL:=RH D;rw[tL,Hbd.o,decide_eq_true h] at oL;cases oL
 rw[if_neg h0] at hR;have HR:=ap hR;have hd:decide ((0:Int)≤bd)=false:=decide_eq_false h0;clear hR h0 tL yC BU
 go_enter Tryz.func30,Tryz.ntmps30
 go_wp2_with fail
 refine a8.o.mono ?_;rintro e w1 ⟨rfl,b1⟩;have B1:=ap b1;clear b1
 go_wp2_with fail
 refine (HT.o _ B1.o).mono ?_;rintro e w2 ⟨xs,A,c,n,ok,hP,jz,rU,rfl,b2,hr,-,-,hi⟩;have B2:=ap (B1.o.trans (b2.mono B1.o.size));have HP:=ap hP;have uV:=ap (AA.of hr hi);obtain⟨N,hN⟩:∃N,xs.length=N:=⟨_,rfl⟩;have HN:=ap hN;rw[hN] at jz rU ⊢;have Ee:=ap jz;have Hxc:=ap rU;clear hP hr hi b2 hN jz rU
 cases ok with
 | false=>
  go_wp2;go_ret3
  have ye:R=.error (n,50):=by
   obtain⟨h1,h2,h3⟩:=JS HP.o;rw[←HR.o,h1,h2,if_pos (by simpa using h3)]
  rw[ye];exact⟨B2.o,rfl⟩
 | true=>
  have I0:=ap ((PI.zero w2.heap.size w2 (Nat.le_refl _)).go (ay _ (.cells (bound w2.heap.size) 109)));have k0:=ae.new (w2.alloc (.cells #[.slice none 0 0,.slice none 0 0,.slice none 0 0,.bool false,.pointer none] 107)) 109 (bound w2.heap.size);rw[World.size_alloc] at k0;have K0:=ap k0;have T0:=ap (((Below.refl _ w2).alloc (Nat.le_refl _) (.cells #[.slice none 0 0,.slice none 0 0,.slice none 0 0,.bool false,.pointer none] 107)).alloc (by simp) (.cells (bound w2.heap.size) 109));have G2:=ap (HG.o.below B2.o);have H6:=ap (Nat.le_trans jO B2.o.size);clear k0;go_wp2;obtain⟨B,hB⟩:∃B,w2.heap.size=B:=⟨_,rfl⟩;rw[hB] at I0 K0 T0 uV H6 ⊢;have HB:=ap hB;obtain⟨ts,iy⟩:∃ts,xs.map (·.t)=ts:=⟨_,rfl⟩;rw[iy] at HP;have JB:=ap iy;have kS:=ap (show w.heap.size≤B by rw[←hB];exact B2.o.size);have hN5:N≤300000:=by have:=Ee.o;have:=cy.o;omega
  clear hB iy
  go_loopg [39] N (fun gk vk wr=>∃(k:Nat) (st:St) (v:Pv),gk=N-k∧k≤N∧vk=.int .i64 (k:Int)∧run lZ (ts.take k)=.ok st∧PI B B wr st none v∧ae wr (B+1) 109 (bound B)∧Below B w2 wr)
  case atStart=>exact⟨0,lZ,_,rfl,by omega,rfl,rfl,I0.o,K0.o,T0.o⟩
  case round=>
   obtain⟨k,st,v,au,hk,rfl,h1,h2,h3,h4⟩:=hrel;have Hg:=ap au;have H1:=ap h1;have I1:=ap h2;have K1:=ap h3;have T1:=ap h4;have Ok1:=ap (HS.o.ru k st (by rw[HP.o.1];exact h1));clear au h1 h2 h3 h4 I0 K0 T0
   by_cases hlt:k<N
   ·obtain⟨x,hx⟩:∃x,xs[k]?=some x:=⟨_,List.getElem?_eq_getElem (by rw[HN.o];exact hlt)⟩;obtain⟨b,off,rfl,hb,hat⟩:=uV.o.at_ hx;have dV:x.t∈ts:=by rw[←JB.o];exact List.mem_map_of_mem (List.mem_of_getElem? hx)
    have eF:ts[k]?=some x.t:=by rw[←JB.o,List.getElem?_map,hx];rfl
    have rN:=uV.o.sub x.g (List.mem_map_of_mem (List.mem_of_getElem? hx));have hsm:=HS.o.tk x.t (by rw[HP.o.1];exact dV);obtain⟨kn,js,nD⟩:=ahd hsm;have y0:wr.cell? ⟨b,off+k*7,none⟩=some (.int .i8 (kn:Int)):=by rw[←js];exact (T1.o.cell (p:=⟨b,off+k*7,none⟩) hb).trans hat.c0
    have yf:=acF K1.o nD;have ht:rb B wr b (off+k*7) x.t:=⟨hb,(T1.o.cell (p:=⟨b,off+k*7+1,none⟩) hb).trans hat.c1,(T1.o.cell (p:=⟨b,off+k*7+3,none⟩) hb).trans hat.c3,(T1.o.cell (p:=⟨b,off+k*7+4,none⟩) hb).trans hat.c4,(T1.o.cell (p:=⟨b,off+k*7+5,none⟩) hb).trans hat.c5⟩
    have iV:wr.cell? ⟨b,off+k*7+2,none⟩=some (.slice x.A x.t.attrs.length x.c):=by
     have:=(T1.o.cell (p:=⟨b,off+k*7+2,none⟩) hb).trans hat.c2;rwa[show x.g.ar.length=x.t.attrs.length from List.length_map _] at this
    have lT:Reads wr B 3 x.A x.t.attrs.length (lz (x.t.attrs.map At.g)):=by
     have:=rN.below T1.o;rwa[show x.g.ar.length=x.t.attrs.length from List.length_map _] at this
    have tF:=al8 B B wr.drew st v b (off+k*7) x.t x.A x.c (I1.o.go (Below.refl _ _).drew) (by rw[←HB.o];exact T1.o.size) H6.o ((G2.o.below (by rw[HB.o];exact T1.o)).below (Below.refl _ _).drew) ⟨ht.lt,ht.c1,ht.c3,ht.c4,ht.c5⟩ iV lT hsm Ok1.o;rw[js] at tF;have HSt:=ap tF;have Ju:=ap (show run lZ (ts.take (k+1))=Sx.step st x.t by rw[List.take_add_one,eF];show run lZ (ts.take k++[x.t])=_;rw[akQ,H1.o]);have mZ:=ap hsm;have Br:=fun args w=>aet nD args w;generalize xX (kn:Int)=fn at *
    obtain⟨r,hr⟩:∃r,Sx.step st x.t=r:=⟨_,rfl⟩;have Hr:=ap hr;rw[hr] at HSt Ju;clear hat hx dV eF rN hsm js ht iV lT tF hr
    cases r with
    | error y=>
     have ye:R=.error y:=by
      obtain⟨q1,q2,q3⟩:=JS HP.o;have:=akP Ju.o (ts.drop (k+1));rw[List.take_append_drop] at this;rw[←HR.o,q1,q2,if_neg (by simpa using q3),this]
     subst ye;go_wp2
     go_region_with (refine HSt.o.mono ?_;rintro e w3 ⟨rfl,hm,iH,v',hp⟩)
     all_goals
      have c4:=hp.c4;obtain⟨F,hF,TG,KT⟩:=hp.bad;rw[TG] at c4;have z0:=KT.cell 0;have z1:=KT.cell 1;have M3:=ap hm;have JC:=ap (show B≤wr.heap.size by rw[←HB.o];exact T1.o.size);clear hp hF TG KT hm;go_wp2
      go_quiet (fail)
      go_wp2;go_ret3;exact⟨below_drewN (B2.o.trans ((T1.o.trans (((aF.refl B B wr).drew.trans M3.o).below (C:=B) (Nat.le_refl _) (Nat.le_refl _) JC.o)).mono kS.o)) _,rfl⟩
    | ok iH=>
     go_wp2
     go_region_with (refine HSt.o.mono ?_;rintro e w3 ⟨rfl,hm,v',hp⟩)
     all_goals
      have c4:=hp.c4;rw[hp.uy] at c4;have P3:=ap hp;have M3:=ap hm;have JC:=ap (show B≤wr.heap.size by rw[←HB.o];exact T1.o.size);clear hp hm;go_wp2
      go_roundg (N-(k+1))
      case measure=>have:=Hg.o;omega
      case rel=>
       have UW:aF B B wr w3:=(aF.refl B B wr).drew.trans M3.o;exact⟨k+1,iH,v',rfl,by omega,by first|rfl|go_num,Ju.o,P3.o,UW.blk K1.o (by omega) (by decide),T1.o.trans (UW.below (Nat.le_refl _) (Nat.le_refl _) JC.o)⟩
   have nE:k=N:=by omega
   subst nE;have hall:ts.take k=ts:=List.take_of_length_le (by rw[←JB.o,List.length_map,HN.o];exact Nat.le_refl _);have hrun:=H1.o;rw[hall] at hrun
   have ye:R=if st.open_=[]∧st.gI=true then .ok st.evs else .error (D.length,50):=by
    obtain⟨q1,q2,q3⟩:=JS HP.o;rw[←HR.o,q1,q2,if_neg (by simpa using q3),hrun]
   have IX:=ap ye;have c0:=I1.o.c;have c3:=I1.o.c3;obtain⟨no,hno⟩:∃no,st.open_.length=no:=⟨_,rfl⟩;have fB:=ap hno;rw[hno] at c0;obtain⟨ro,hro⟩:∃ro,st.gI=ro:=⟨_,rfl⟩;have jE:=ap hro;rw[hro] at c3;have zx:=ap (B2.o.trans (T1.o.mono (by have:=B2.o.size;have:=HB.o;omega)));clear hall hrun ye hno hro HR
   by_cases h0:no=0
   ·subst h0;have ho:st.open_=[]:=List.eq_nil_of_length_eq_zero fB.o
    cases ro with
    | true=>
     have fH:R=.ok st.evs:=by rw[IX.o,if_pos ⟨ho,jE.o⟩]
     have c2:=I1.o.c2;obtain⟨ne,hne⟩:∃ne,v.xs.length=ne:=⟨_,rfl⟩;rw[hne] at c2;have Hne:=ap hne;subst fH;clear ho hne;go_wp2;go_ret3;refine⟨zx.o,v.xs,v.Ae,v.ce,I1.o.ev,?_,zf I1.o.e,Reads.cY I1.o.e,(AB I1.o.e).more kS.o,CY I1.o.e,fun x hx=>⟨(I1.o.gU x hx).a,(I1.o.gU x hx).va.more kS.o,(I1.o.gU x hx).ta⟩⟩;rw[Hne.o];rfl
    | false=>
     have fH:R=.error (s.size,50):=by rw[IX.o,if_neg (by rw[jE.o];simp),cy.o]
     subst fH;clear ho;go_wp2;go_ret3;exact⟨zx.o,rfl⟩
   have fH:R=.error (s.size,50):=by rw[IX.o,if_neg (by intro h;apply h0;rw[←fB.o,h.1];rfl),cy.o]
   have oO:0<no:=by omega
   subst fH;clear h0;go_wp2;go_ret3;exact⟨zx.o,rfl⟩
end
section
open Go.RowKit Tk Sx

structure ZE(w:World)(b o:Nat)(x:Ew):Prop where
 c0:w.cell? ⟨b,o,none⟩=some (.int .i8 (x.e.kind:Int))
 c1:w.cell? ⟨b,o+1,none⟩=some (.string (aa x.e.name.ns))
 c2:w.cell? ⟨b,o+2,none⟩=some (.string (aa x.e.name.loc))
 c3:w.cell? ⟨b,o+3,none⟩=some (.slice x.A x.e.attrs.length x.c)
 c4:w.cell? ⟨b,o+4,none⟩=some (.string (aa x.e.text))
structure Zu(w:World)(b o:Nat)(x:ft):Prop where
 c0:w.cell? ⟨b,o,none⟩=some (.string (aa x.name.ns))
 c1:w.cell? ⟨b,o+1,none⟩=some (.string (aa x.name.loc))
 c2:w.cell? ⟨b,o+2,none⟩=some (.string (aa x.val))
structure pz(w:World)(B:Nat)(A:Option Addr)(xs:List Ew):Prop where
 row:Reads w B 5 A xs.length (ik xs)
 sub:∀x∈xs,Reads w B 3 x.A x.e.attrs.length (jl x.e.attrs)
section
variable {w w':World} {B B':Nat} {A:Option Addr} {xs:List Ew}
theorem pz.below(h:pz w B A xs)(hb:Below B w w'):pz w' B A xs:=⟨h.row.below hb,fun x hx=>(h.sub x hx).below hb⟩
theorem pz.more(h:pz w B A xs)(hB:B≤B'):pz w B' A xs:=⟨h.row.more hB,fun x hx=>(h.sub x hx).more hB⟩
theorem pz.at_(h:pz w B A xs){k:Nat}{x:Ew}(hx:xs[k]?=some x):∃b off,A=some ⟨b,off,none⟩∧b<B∧ZE w b (off+k*5) x:=by
 obtain⟨hk,he⟩:=List.getElem?_eq_some_iff.1 hx;obtain⟨b,off,hA,hb,hc⟩:=h.row.2 (by omega)
 have hf:∀j,j<5→(ik xs)[k*5+j]?=(dS x)[j]?:=fun j hj=>by
  unfold ik;rw[xW EN xs k hk j hj,he]
 refine⟨b,off,hA,hb,?_⟩
 constructor
 ·have:=hc (k*5+0) _ (hf 0 (by omega));simpa using this
 ·have:=hc (k*5+1) _ (hf 1 (by omega));rwa[←Nat.add_assoc] at this
 ·have:=hc (k*5+2) _ (hf 2 (by omega));rwa[←Nat.add_assoc] at this
 ·have:=hc (k*5+3) _ (hf 3 (by omega));rwa[←Nat.add_assoc] at this
 have:=hc (k*5+4) _ (hf 4 (by omega));rwa[←Nat.add_assoc] at this
theorem JV{l:List ft}(h:Reads w B 3 A l.length (jl l)){k:Nat}{x:ft}(hx:l[k]?=some x):∃b off,A=some ⟨b,off,none⟩∧b<B∧Zu w b (off+k*3) x:=by
 obtain⟨hk,he⟩:=List.getElem?_eq_some_iff.1 hx;obtain⟨b,off,hA,hb,hc⟩:=h.2 (by omega)
 have hf:∀j,j<3→(jl l)[k*3+j]?=(ml x)[j]?:=fun j hj=>by
  unfold jl;rw[xW aca l k hk j hj,he]
 refine⟨b,off,hA,hb,?_⟩
 constructor
 ·have:=hc (k*3+0) _ (hf 0 (by omega));simpa using this
 ·have:=hc (k*3+1) _ (hf 1 (by omega));rwa[←Nat.add_assoc] at this
 have:=hc (k*3+2) _ (hf 2 (by omega));rwa[←Nat.add_assoc] at this
end
end
section
open Go.RowKit Tk Sx Go.WideShapes

theorem JY(a b:L):((aa a).toList=(aa b).toList)↔a=b:=by
 rw[ByteArray.toList_eq,ByteArray.toList_eq]
 constructor
 ·intro h;exact str_inj (by rw[ByteArray.ext_iff];exact Array.toList_inj.1 h)
 rintro rfl;rfl
def fF(x y:Nm):Bool:=decide (x.ns=y.ns)&&decide (x.loc=y.loc)
theorem AP(x y:Nm):fF x y=true↔x=y:=by
 unfold fF;obtain⟨a,b⟩:=x;obtain⟨a',b'⟩:=y;simp only[Bool.and_eq_true,decide_eq_true_eq,Nm.mk.injEq]
theorem EM(w:World)(x y:Nm):(binOp .eql 75 (.agg #[.string (aa x.ns),.string (aa x.loc)]) (.agg #[.string (aa y.ns),.string (aa y.loc)])).run Tryz.prog w=.ok (.bool (fF x y)) w:=by
 unfold fF;go_simp;simp only[JY];obtain⟨a,b⟩:=x;obtain⟨a',b'⟩:=y;dsimp only
 (repeat' split)<;>simp_all
theorem Nq{H:Type}{e:TypeId}(he:Tryz.prog.underlying e=some .bool){v:Value}{z:DataW H×List MemPlace}(h:plainElem Tryz.prog e v=some z):∃x,v=.bool x∧z=(.lit (.bool x),[]):=by
 unfold plainElem at h;rw[he] at h
 cases v<;>simp at h
 subst h;exact⟨_,rfl,rfl⟩
theorem OT(w:World):(zeroValue 4).run Tryz.prog w=.ok (.bool false) w:=by kernel_rfl
structure lp(W:World)(mb n:Nat)(seen:List Nm)(D:DataW Unit):Prop where
 own:W.ownsMap Tryz.prog 75 (plainElem Tryz.prog 4) mb n D
 is:Maps.IsMap D
 ok:∀x:Nm,gM x→D.atKey (gF x) (.lit (.bool false))=.lit (.bool (decide (x∈seen)))
theorem lp.new(w:World):lp (w.alloc (.map #[] 0)) w.heap.size 0 [] (.map []):=⟨World.ownsMap_made _ _ _ _,Maps.isMap_empty,fun _ _=>by simp[DataW.atKey]⟩
theorem lp.same{W W':World}{mb n:Nat}{seen:List Nm}{D:DataW Unit}(h:lp W mb n seen D)(e:W'.heap[mb]?=W.heap[mb]?):lp W' mb n seen D:=⟨nO h.own e,h.is,h.ok⟩
theorem lp.lt{W:World}{mb n:Nat}{seen:List Nm}{D:DataW Unit}(h:lp W mb n seen D):mb<W.heap.size:=h.own.lt
theorem lp.next{W W':World}{mb n:Nat}{seen:List Nm}{D:DataW Unit}{x:Nm}(h:lp W mb n seen D)(hx:gM x)(ho:W'.ownsMap Tryz.prog 75 (plainElem Tryz.prog 4) mb (n+1) (D.put (gF x) (.lit (.bool true)))):lp W' mb (n+1) (x :: seen) (D.put (gF x) (.lit (.bool true))):=by
 refine⟨ho,h.is.put _ _,fun y hy=>?_⟩
 by_cases hm:y=x
 ·subst hm;rw[Maps.atKey_put_same h.is (k:=gF y) (by simp[WideAt.IsKeyLit,gF])];simp
 rw[Maps.atKey_put_other (fun e=>hm (MK hy hx e)),h.ok y hy];simp[hm]
theorem lp.find{W:World}{mb n:Nat}{seen:List Nm}{D:DataW Unit}(h:lp W mb n seen D){x:Nm}(hx:gM x) :
  (Instr.lookup 224 (.map (some mb)) (nR x) false).run Tryz.prog W=.ok (.bool (decide (x∈seen))) W:=by
 obtain⟨v,ps,hrun,hv⟩:=h.own.lookup Gg Tryz.underlying224 (OT W) (plainElem_bool Tryz.underlying4 false) (yH hx);obtain⟨c,rfl,hc⟩:=Nq Tryz.underlying4 hv;simp only[Prod.mk.injEq] at hc;have hr:=hc.1;rw[h.ok x hx] at hr;simp only[DataW.lit.injEq,Lit.bool.injEq] at hr;subst hr;exact hrun
theorem vF(t:L):(aa t).toList.isEmpty=t.isEmpty:=by rw[ByteArray.toList_eq];rfl
theorem td{t:L}(h:t≠[]):(aa t).toList.isEmpty=false:=by
 rw[vF]
 cases t with
 | nil=>exact absurd rfl h
 | cons a t=>rfl
theorem aea(x:Ew)(w:World)(hf:Evs.xk x.e)(hr:Reads w w.heap.size 3 x.A x.e.attrs.length (jl x.e.attrs))(hn:x.e.attrs.length≤1000000)(hs:∀a∈x.e.attrs,gM a.name) :
  Calls Tryz.prog 125 #[.agg (dS x).toArray] w fun e w'=>e=.returned (.bool true)∧Below w.heap.size w w':=by
 obtain⟨⟨kd,⟨ns,loc⟩,ar,tx⟩,A,c⟩:=x;dsimp only at hf hr hn hs;have HO:=ap (ay w (.cells (dS ⟨⟨kd,⟨ns,loc⟩,ar,tx⟩,A,c⟩).toArray 79));have HT:=ap (ae.new w 79 (dS ⟨⟨kd,⟨ns,loc⟩,ar,tx⟩,A,c⟩).toArray);have hE:∀W:World,(binOp .eql 75 (.agg #[.string (aa ns),.string (aa loc)]) (.agg #[.string ⟨#[]⟩,.string ⟨#[]⟩])).run Tryz.prog W=.ok (.bool (fF ⟨ns,loc⟩ ⟨[],[]⟩)) W:=fun W=>EM W ⟨ns,loc⟩ ⟨[],[]⟩;unfold Evs.xk Gr at hf;unfold dS at HO HT ⊢;dsimp only at hf hE HO HT ⊢;have t0:=HT.o.cell 0;have t1:=HT.o.cell 1;have t2:=HT.o.cell 2;have t3:=HT.o.cell 3;have t4:=HT.o.cell 4
 rcases hf with ⟨rfl,h1,h2,h3,h4⟩|⟨rfl,h1,rfl,rfl⟩|⟨rfl,h1,rfl,h2⟩
 ·have e1:=td h1;have hq:fF ⟨ns,loc⟩ ⟨[],[]⟩=false:=by unfold fF;rw[decide_eq_false (p:=loc=[]) h1];simp
  simp only[hq] at hE;subst h2;rw[show ((0:Nat):Int)=0 from rfl] at HO HT t0 ⊢;have Hr:=ap hr;have Hs:=ap hs;have Hnd:=ap h3;have Hlc:=ap h4;have gD:=@run_makeMap Tryz.prog;have qA:=ap (lp.new (w.alloc (.cells #[.int .i8 0,.string (aa ns),.string (aa loc),.slice A ar.length c,.string (aa [])] 79)));have cu:=ap (HO.o.trans ((ay (w.alloc (.cells #[.int .i8 0,.string (aa ns),.string (aa loc),.slice A ar.length c,.string (aa [])] 79)) (.map #[] 0)).mono (by simp)));have ee:=ap (HT.o.alloc (.map #[] 0));rw[World.size_alloc] at qA;obtain⟨N,hN⟩:∃N,ar.length=N:=⟨_,rfl⟩;have HN:=ap hN;rw[hN] at HT HO qA cu ee Hr hn t3 ⊢;have m1:=ee.o.cell 0;have m2:=ee.o.cell 1;have m3:=ee.o.cell 2;have m4:=ee.o.cell 3;have m5:=ee.o.cell 4;clear hr hs h1 h3 h4 hq hN
  go_enter Tryz.func125,Tryz.ntmps125
  go_wp2;clear t0 t1 t2 t3 t4 m1 m2 m3 m4 m5 gD hE;obtain⟨W0,jo⟩:∃W0,(w.alloc (.cells #[.int .i8 0,.string (aa ns),.string (aa loc),.slice A N c,.string (aa [])] 79)).alloc (.map #[] 0)=W0:=⟨_,rfl⟩;rw[jo] at qA cu ee ⊢;have hz0:W0.heap.size=w.heap.size+2:=by rw[←jo];simp
  clear jo
  go_loopg [50,6] N (fun gk v50 v6 wr=>∃(i:Nat) (D:DataW Unit),v50=.int .i64 (i:Int)∧gk=N-i∧i≤N∧lp wr (w.heap.size+1) i ((ar.take i).map (·.name)).reverse D∧Below w.heap.size w wr∧ae wr w.heap.size 79 #[.int .i8 0,.string (aa ns),.string (aa loc),.slice A N c,.string (aa [])])
  case atStart=>exact⟨0,_,rfl,rfl,by omega,qA.o,cu.o,ee.o⟩
  case round=>
   obtain⟨i,D,rfl,au,hi,dI,hb,ht⟩:=hrel;have dQ:=ap au;have oc:=ap dI;have HB:=ap hb;have l9:=ap ht;clear au dI hb ht
   by_cases hlt:i<N
   ·obtain⟨a,ha⟩:∃a,ar[i]?=some a:=⟨_,List.getElem?_eq_getElem (by rw[HN.o];exact hlt)⟩;have eE:Reads wr w.heap.size 3 A ar.length (jl ar):=by rw[HN.o];exact Hr.o.below HB.o
    obtain⟨b,off,rfl,eZ,hx⟩:=JV eE ha;have x0:=hx.c0;have x1:=hx.c1;have x2:=hx.c2;have hsm:=Hs.o a (List.mem_of_getElem? ha);have el:=td (Hlc.o a (List.mem_of_getElem? ha))
    have yz:decide (a.name∈((ar.take i).map (·.name)).reverse)=false:=by
     refine decide_eq_false fun h=>?_;rw[List.mem_reverse] at h;obtain⟨y,hy,e⟩:=List.mem_map.1 h;obtain⟨k,hk,e2⟩:=List.getElem_of_mem hy;rw[List.length_take] at hk;rw[List.getElem_take] at e2;have BJ:k<i:=by omega
     have pY:=List.pairwise_iff_getElem.1 (List.nodup_iff_pairwise_ne.1 Hnd.o) k i (by rw[List.length_map];omega) (by rw[List.length_map,HN.o];exact hlt) BJ;rw[List.getElem_map,List.getElem_map,e2,e] at pY;exact pY (by rw[(List.getElem?_eq_some_iff.1 ha).2])
    have hC:=ay wr (.cells #[.string (aa a.name.ns),.string (aa a.name.loc),.string (aa a.val)] 155);have LD:=(oc.o.same (hC.block _ oc.o.lt)).find hsm;rw[yz] at LD;unfold nR at LD;have sK:=ap hsm;have HC:=ap hC;have xG:=ap (show ((ar.take (i+1)).map (·.name)).reverse=a.name :: ((ar.take i).map (·.name)).reverse by rw[List.take_add_one,ha];simp);have dU:i<maxLen:=by unfold maxLen;omega
    have HK:=ap (ae.new wr 155 #[.string (aa a.name.ns),.string (aa a.name.loc),.string (aa a.val)]);clear ha eE hx yz hsm hC;obtain⟨⟨an,al⟩,av⟩:=a;dsimp only at x0 x1 x2 el LD
    go_wp2_with (at_mapUpdate;refine wpList_mapUpdate_own _ rfl _ _ _ 224 rfl 75 4 Gg Tryz.underlying224 _ (w.heap.size+1) i D rfl (oc.o.same (HC.o.block _ oc.o.lt)).own dU _ _ _ (by rfl) (by rfl) (yH (x:=⟨an,al⟩) sK.o) _ [] (plainElem_bool Tryz.underlying4 true) ?_;intro w8 aP aG;have uT:=ap ((oc.o.same (HC.o.block _ oc.o.lt)).next sK.o aP);have eC:=ap aG;clear aP aG)
    go_roundg (N-(i+1))
    case measure=>have:=dQ.o;omega
    case rel=>
     refine⟨i+1,_,by first|rfl|go_num,rfl,by omega,by rw[xG.o];exact uT.o,?_,?_⟩
     ·exact (HB.o.trans (HC.o.mono HB.o.size)).grown eC.o (HB.o.trans (HC.o.mono HB.o.size)).size (fun k e=>by injection e with e;omega)
     exact (l9.o.go HC.o).grown eC.o (by intro e;injection e with e;omega)
   have t1:=l9.o.cell 1;have t2:=l9.o.cell 2;have t4:=l9.o.cell 4;have e2:(aa ([]:L)).toList.isEmpty=true:=vF [];go_wp2;go_ret;exact⟨rfl,HB.o⟩
 ·have e1:=td h1;have hq:fF ⟨ns,loc⟩ ⟨[],[]⟩=false:=by unfold fF;rw[decide_eq_false (p:=loc=[]) h1];simp
  simp only[hq] at hE;have e2:(aa ([]:L)).toList.isEmpty=true:=vF [];clear hr hn hs h1 hq
  go_enter Tryz.func125,Tryz.ntmps125
  go_wp2;go_ret;exact⟨rfl,HO.o⟩
 have e1:=td h2;have hq:fF ⟨ns,loc⟩ ⟨[],[]⟩=true:=by rw[AP];exact h1
 simp only[hq] at hE;clear hr hn hs h1 h2 hq
 go_enter Tryz.func125,Tryz.ntmps125
 go_wp2;go_ret;exact⟨rfl,HO.o⟩
end
section
open Go.RowKit Tk Sx Go.WideShapes

def nQ(l:List Nat):List Value:=l.map fun (p:Nat)=>Value.int .i64 (p:Int)
theorem ahT(l:List Nat):(nQ l).length=l.length:=List.length_map ..
theorem MX(a b:List Nat):nQ (a++b)=nQ a++nQ b:=List.map_append ..
theorem ahS{l:List Nat}{k p:Nat}(h:l[k]?=some p):(nQ l)[k]?=some (.int .i64 (p:Int)):=by unfold nQ;rw[List.getElem?_map,h];rfl
def ke(W:World)(base:Nat)(A:Option Addr)(n c:Nat)(l:List Nat):Prop :=
 W.ownsRow base 3 1 (.slice A n c) n (nQ l)∨(c=n∧Reads W W.heap.size 1 A n (nQ l)∧(A=none→n=0)∧∀a,A=some a→base≤a.block∧bN W a.block 3)
theorem ke.reads{W:World}{base n c:Nat}{A:Option Addr}{l:List Nat}(h:ke W base A n c l):Reads W W.heap.size 1 A n (nQ l):=by
 rcases h with h|h
 ·exact Reads.cY h
 exact h.2.1
theorem ke.acv{W:World}{base n c:Nat}{A:Option Addr}{l:List Nat}(h:ke W base A n c l):∀a,A=some a→base≤a.block∧bN W a.block 3:=by
 rcases h with h|h
 ·intro a ha;subst ha;refine aD h a.block ?_
  rcases h.2 with ⟨h0,_⟩|⟨g,cap,cur,e,_⟩
  ·cases h0
  cases e;rfl
 exact h.2.2.2
theorem ke.kept{W W':World}{base n c:Nat}{A:Option Addr}{l:List Nat}(h:ke W base A n c l)(hs:W.heap.size≤W'.heap.size)(hb:∀k,k<W.heap.size→bN W k 3→base≤k→W'.heap[k]?=W.heap[k]?):ke W' base A n c l:=by
 rcases h with h|⟨h1,h2,h3,h4⟩
 ·refine .inl ⟨h.1,?_⟩
  rcases h.2 with hn|⟨g,cap,cur,e,hg,hh,rest⟩
  ·exact .inl hn
  exact .inr ⟨g,cap,cur,e,hg,(hb g (Array.getElem?_eq_some_iff.1 hh).1 ⟨cur,_,hh⟩ hg).trans hh,rest⟩
 refine .inr ⟨h1,⟨h2.1,fun hn=>?_⟩,h3,fun a ha=>?_⟩
 ·obtain⟨b,off,e,hlt,hc⟩:=h2.2 hn;subst e;obtain⟨g1,g2⟩:=h4 _ rfl;exact⟨b,off,rfl,Nat.lt_of_lt_of_le hlt hs,fun j u hu=>(World.cell?_of_block (hb b hlt g2 g1)).trans (hc j u hu)⟩
 obtain⟨g1,g2⟩:=h4 a ha;obtain⟨cs,fr,g3⟩:=g2;exact⟨g1,cs,fr,(hb _ (Array.getElem?_eq_some_iff.1 g3).1 ⟨cs,fr,g3⟩ g1).trans g3⟩
theorem Zn{W:World}{ops:Array Oper}{rest:List Oper}{o:Oper}{a:Act}{Q:Exit→Act→World→Prop}(hgd:o.guard=none)(s x:Operand)(t:TypeId)
  (ho:o.op=.call { callee:=.builtin .append,args:=#[s,x],argTypes:=#[t,t] }) (ht:Tryz.prog.underlying t=some (.slice 3)) (base:Nat) (A:Option Addr) (n c:Nat) (l:List Nat) (p:Nat)
  (hs:a.eval s=.slice A n c) (h:ke W base A n c l) (hx:a.eval x=.slice (some ⟨W.heap.size,0,none⟩) 1 1) (hn:n≤100000000) (hbase:base≤W.heap.size)
  (hK:∀g cap w' row,w'.ownsRow base 3 1 (.slice (some ⟨g,0,none⟩) (n+1) cap) (n+1) (nQ (l++[p]))→W.grownBy w' row→(∀k,row=some k→base≤k∧bN W k 3)→
   wpList Tryz.prog ops Q rest (a.put o.dst (.slice (some ⟨g,0,none⟩) (n+1) cap)) w'):wpList Tryz.prog ops Q (o :: rest) a (W.alloc (.cells #[.int .i64 (p:Int)] 3)):=by
 rcases h with h|⟨h1,h2,h3,h4⟩
 ·refine et W hgd s x t ho base (.int .i64 0) 1 8 ht fM rfl (by omega) (.slice A n c) n (nQ l) hs h (cs:=[.int .i64 (p:Int)]) rfl (by simp[Value.oneCell']) hx (by unfold maxLen;omega) (by omega) hbase ?_;intro g cap w' hown hgrow _ _ _;exact hK g cap w' _ (by rw[MX];exact hown) hgrow (aD h)
 obtain⟨i,hi,hz,hsize,hby⟩:=info_parts fM;subst h1;refine wpList_append_grows (W.alloc (.cells #[.int .i64 (p:Int)] 3)) hgd s x t ho 3 i (.int .i64 0) 1 8 ht hi hz hsize hby rfl (by omega) A c c (nQ l) hs (fun e=>⟨h3 e,h3 e⟩) (by have:=h2.1;omega) ?_ ⟨W.heap.size,0,none⟩ 1 1 [.int .i64 (p:Int)] hx rfl ?_ (by simp[Value.oneCell']) (by omega) (by unfold maxLen;omega) (by omega) ?_
 ·intro b hb j u hu;have hj:=(List.getElem?_eq_some_iff.1 hu).1;obtain⟨b',off,e,hlt,hc⟩:=h2.2 (by have:=h2.1;omega);rw[hb] at e;cases e;have bj:=hc j u hu;have h5:(W.alloc (.cells #[.int .i64 (p:Int)] 3)).cell? ⟨b',off+j,none⟩=some u:=(World.cell?_of_block (Below.heap_alloc _ _ _ hlt)).trans bj;rw[Addr.add_lit];exact h5
 ·intro j u hu;exact World.news_of_block (ae.new W 3 #[.int .i64 (p:Int)]) j u (by simpa using hu)
 intro v' w' hown hgrow;obtain⟨g,cap,hv,hb,hlt⟩:=hown.form (by omega);subst hv;refine hK g cap w' none (by rw[MX];exact hown.mono (by simp;omega)) ⟨hgrow.os,hgrow.tape,hgrow.output,Nat.le_trans (by simp) hgrow.size,fun k hk _=>?_⟩ (fun k e=>by cases e);exact (hgrow.block k (by simp;omega) (by simp)).trans (Below.heap_alloc W _ k hk)
theorem MM:Maps.Keyed Tryz.prog 3:=Maps.int_keyed Tryz.underlying3
def jP(p:Nat):Lit:=.int .i64 (p:Int)
theorem keyOf_int{p:Nat}(h:p≤1000000000):keyOf Tryz.prog 3 (.int .i64 (p:Int))=some (jP p):=by
 exact Maps.keyOf_int_mk Tryz.underlying3 (WalkArith.wf_i64 (by omega))
structure fQ(W:World)(mb n:Nat)(m:List (Nat×Nat))(D:DataW Unit):Prop where
 own:W.ownsMap Tryz.prog 3 (plainElem Tryz.prog 3) mb n D
 is:Maps.IsMap D
 no:∀p,Evs.bQ p m=none→Maps.has D (jP p)=false∧D.atKey (jP p) (.lit (.int .i64 0))=.lit (.int .i64 0)
 yes:∀p k,Evs.bQ p m=some k→Maps.has D (jP p)=true∧D.atKey (jP p) (.lit (.int .i64 0))=.lit (.int .i64 (k:Int))
theorem Gd{p q:Nat}(h:jP p=jP q):p=q:=by
 unfold jP at h;injection h with _ h
 omega
theorem fQ.new(w:World):fQ (w.alloc (.map #[] 0)) w.heap.size 0 [] (.map []):=⟨World.ownsMap_made _ _ _ _,Maps.isMap_empty,fun _ _=>⟨rfl,rfl⟩,fun _ _ h=>by cases h⟩
theorem fQ.same{W W':World}{mb n:Nat}{m:List (Nat×Nat)}{D:DataW Unit}(h:fQ W mb n m D)(e:W'.heap[mb]?=W.heap[mb]?):fQ W' mb n m D:=⟨nO h.own e,h.is,h.no,h.yes⟩
theorem fQ.lt{W:World}{mb n:Nat}{m:List (Nat×Nat)}{D:DataW Unit}(h:fQ W mb n m D):mb<W.heap.size:=h.own.lt
theorem fQ.next{W W':World}{mb n p k:Nat}{m:List (Nat×Nat)}{D:DataW Unit}(h:fQ W mb n m D)(ho:W'.ownsMap Tryz.prog 3 (plainElem Tryz.prog 3) mb (n+1) (D.put (jP p) (.lit (.int .i64 (k:Int))))):fQ W' mb (n+1) ((p,k) :: m) (D.put (jP p) (.lit (.int .i64 (k:Int)))):=by
 refine⟨ho,h.is.put _ _,fun q hq=>?_,fun q k' hq=>?_⟩
 ·unfold Evs.bQ at hq
  split at hq
  ·cases hq
  rename_i hne
  rw[Maps.has_put_other (fun e=>hne (Gd e).symm),Maps.atKey_put_other (fun e=>hne (Gd e).symm)];exact h.no q hq
 unfold Evs.bQ at hq
 split at hq
 ·rename_i he
  dsimp only at he;subst he;cases hq;refine⟨?_,Maps.atKey_put_same h.is (k:=jP p) (by simp[WideAt.IsKeyLit,jP]) _ _⟩;exact Maps.has_put_same h.is (k:=jP p) (by simp[WideAt.IsKeyLit,jP]) _
 rename_i hne
 rw[Maps.has_put_other (fun e=>hne (Gd e).symm),Maps.atKey_put_other (fun e=>hne (Gd e).symm)];exact h.yes q k' hq
end
end Go.Proofs.YtpdkeckeekchlaaGreatDoor
