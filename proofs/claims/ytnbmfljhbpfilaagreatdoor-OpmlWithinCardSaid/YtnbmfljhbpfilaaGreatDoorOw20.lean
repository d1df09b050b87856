/- A call of a function value: it enters the function. And more. -/
import Derived.Test.YtnbmfljhbpfilaaGreatDoorOw00
import Derived.Test.YtnbmfljhbpfilaaGreatDoorOw10
import Derived.Test.YtnbmfljhbpfilaaGreatDoorOw11
import Derived.Test.YtnbmfljhbpfilaaGreatDoorOw19
import Derived.Laws.EntriesVeiled
import Derived.ArgAppend
set_option linter.unusedSimpArgs false
set_option maxRecDepth 100000
set_option maxHeartbeats 16000000
set_option linter.unusedVariables false
namespace Go.Proofs.YtnbmfljhbpfilaaGreatDoor
section
open Go Go.RowKit

theorem zU {P : Program} {f : FuncId} {fn : Func} (hf : P.funcs[f]? = some fn) (hname : (fn.name == "runtime.NumGoroutine") = false) (hb : fn.body.isSome = true) (args : Array Value) (w : World) : (callFunc f args).run P w = .ok (.enter f args) w := by
 have h1 : fn.name ≠ "runtime.NumGoroutine" := by simpa using hname
 obtain⟨c,hc⟩:=Option.isSome_iff_exists.1 hb;simp[callFunc,hf,h1,hc]
end
section
open Go.RowKit Tk Sx

def abo(w:World)(r:Except (Nat×Nat) (List Ev))(e:Ending)(w':World):Prop:=Below w.heap.size w w'∧match r with
 | .error x=>e=.returned (.tuple #[.slice none 0 0,.int .i64 (x.1:Int),.int .i64 (x.2:Int)])
 | .ok evs=>∃xs A c,xs.map (·.e)=evs∧e=.returned (.tuple #[.slice A xs.length c,.int .i64 (-1),.int .i64 0])∧xs.length≤c∧Reads w' w'.heap.size 5 A xs.length (gS xs)∧oM w.heap.size A∧Typed w' A 50∧∀x∈xs,x.In w.heap.size w'
theorem agQ{N:Nat}{t:Tok}(h:nM N t):∃kn:Nat,t.kind=(kn:Int)∧kn<5:=by
 rcases h.kd with h|h|h|h|h
 ·exact⟨0,h,by omega⟩
 ·exact⟨1,h,by omega⟩
 ·exact⟨2,h,by omega⟩
 ·exact⟨3,h,by omega⟩
 exact⟨4,h,by omega⟩
def bound(P:Nat):Array Value:=#[.func (.func 30) #[.pointer (some ⟨P,0,none⟩)] #[],.func (.func 31) #[.pointer (some ⟨P,0,none⟩)] #[],.func (.func 32) #[.pointer (some ⟨P,0,none⟩)] #[],.func (.func 33) #[.pointer (some ⟨P,0,none⟩)] #[],.func (.func 34) #[.pointer (some ⟨P,0,none⟩)] #[]]
theorem ach{W:World}{K P:Nat}(h:ae W K 79 (bound P)){kn:Nat}(hk:kn<5):W.cell? ⟨K,kn,none⟩=some (.func (.func (xz (kn:Int))) #[.pointer (some ⟨P,0,none⟩)] #[]):=by
 have c0:=h.cell 0;have c1:=h.cell 1;have c2:=h.cell 2;have c3:=h.cell 3;have c4:=h.cell 4
 match kn,hk with
 | 0,_=>exact c0
 | 1,_=>exact c1
 | 2,_=>exact c2
 | 3,_=>exact c3
 | 4,_=>exact c4
theorem ad3{kn:Nat}(hk:kn<5)(args:Array Value)(w:World):(callFunc (xz (kn:Int)) args).run Tryz.prog w=.ok (.enter (xz (kn:Int)) args) w:=by
 match kn,hk with
 | 0,_=>exact zU Tryz.func30 (by kernel_rfl) (by kernel_rfl) _ _
 | 1,_=>exact zU Tryz.func31 (by kernel_rfl) (by kernel_rfl) _ _
 | 2,_=>exact zU Tryz.func32 (by kernel_rfl) (by kernel_rfl) _ _
 | 3,_=>exact zU Tryz.func33 (by kernel_rfl) (by kernel_rfl) _ _
 | 4,_=>exact zU Tryz.func34 (by kernel_rfl) (by kernel_rfl) _ _
theorem PI.zero(B:Nat)(w:World)(hB:B≤w.heap.size):PI B w.heap.size (w.alloc (.cells #[.slice none 0 0,.slice none 0 0,.slice none 0 0,.bool false,.pointer none] 77)) eK none ⟨none,0,none,0,none,0,.pointer none,[]⟩ :=
 ⟨ae.new w 77 _,hB,World.ownsRow_nil _ _ _ _,World.ownsRow_nil _ _ _ _,World.ownsRow_nil _ _ _ _,rfl,fun x hx=>(by cases hx),rfl⟩

theorem Jg{s:L}{ts:List Tok}{n:Nat}{ok:Bool}(h:yP s ts n ok):eY s.length 0 s=ts∧Gc ts=n∧ok=decide (n=s.length):=h
theorem aix(s:ByteArray)(w:World)(hg:Gl w)(ia:6≤w.heap.size)(hs:s.size≤300000)(n8:fine s.data.toList=true)(tj:sk s.data.toList)(qT:sj s.data.toList) :
  Calls Tryz.prog 14 #[.string s] w (abo w (Sx.parse s.data.toList)):=by
 have aU:=hide (Jl s w (by omega));have HT:=hide (fun W (h:Below w.heap.size w W)=>amd W s (hg.below h) (Nat.le_trans ia h.size) (by omega) tj);obtain⟨D,hD⟩:∃D,s.data.toList=D:=⟨_,rfl⟩;rw[hD] at aU HT n8 qT ⊢;have HS:=hide qT;have cf:=hide (show D.length=s.size by rw[←hD,bL]);have HG:=hide hg;obtain⟨R,hR⟩:∃R,Sx.parse D=R:=⟨_,rfl⟩;rw[hR];unfold Sx.parse at hR;obtain⟨bd,jc⟩:∃bd,bad D=bd:=⟨_,rfl⟩;rw[jc] at aU hR;have Hbd:=hide jc;clear hg hD jc
 have h0:¬0≤bd:=fun h=>by
  have lr:=Dt D;rw[n8,Hbd.out,decide_eq_true h] at lr;cases lr
 rw[if_neg h0] at hR;have HR:=hide hR;have hd:decide ((0:Int)≤bd)=false:=decide_eq_false h0;clear hR h0 n8 qT tj
 go_enter Tryz.func14,Tryz.ntmps14
 go_wp2_with fail
 refine aU.out.mono ?_;rintro e w1 ⟨rfl,b1⟩;have B1:=hide b1;clear b1
 go_wp2_with fail
 refine (HT.out _ B1.out).mono ?_;rintro e w2 ⟨xs,A,c,n,ok,hP,jq,q7,rfl,b2,hr,-,-,hi⟩;have B2:=hide (B1.out.trans (b2.mono B1.out.size));have HP:=hide hP;have uo:=hide (zP.of hr hi);obtain⟨N,hN⟩:∃N,xs.length=N:=⟨_,rfl⟩;have HN:=hide hN;rw[hN] at jq q7 ⊢;have Di:=hide jq;have Hxc:=hide q7;clear hP hr hi b2 hN jq q7
 cases ok with
 | false=>
  go_wp2;go_ret3
  have xH:R=.error (n,50):=by
   obtain⟨h1,h2,h3⟩:=Jg HP.out;rw[←HR.out,h1,h2,if_pos (by simpa using h3)]
  rw[xH];exact⟨B2.out,rfl⟩
 | true=>
  have I0:=hide ((PI.zero w2.heap.size w2 (Nat.le_refl _)).go (az _ (.cells (bound w2.heap.size) 79)));have k0:=ae.new (w2.alloc (.cells #[.slice none 0 0,.slice none 0 0,.slice none 0 0,.bool false,.pointer none] 77)) 79 (bound w2.heap.size);rw[World.size_alloc] at k0;have K0:=hide k0;have T0:=hide (((Below.refl _ w2).alloc (Nat.le_refl _) (.cells #[.slice none 0 0,.slice none 0 0,.slice none 0 0,.bool false,.pointer none] 77)).alloc (by simp) (.cells (bound w2.heap.size) 79));have G2:=hide (HG.out.below B2.out);have H6:=hide (Nat.le_trans ia B2.out.size);clear k0;go_wp2;obtain⟨B,hB⟩:∃B,w2.heap.size=B:=⟨_,rfl⟩;rw[hB] at I0 K0 T0 uo H6 ⊢;have HB:=hide hB;obtain⟨ts,gY⟩:∃ts,xs.map (·.t)=ts:=⟨_,rfl⟩;rw[gY] at HP;have IK:=hide gY;have tV:=hide (show w.heap.size≤B by rw[←hB];exact B2.out.size);have hN5:N≤300000:=by have:=Di.out;have:=cf.out;omega
  clear hB gY
  go_loopg [39] N (fun gk vk wr=>∃(k:Nat) (st:St) (v:Pv),gk=N-k∧k≤N∧vk=.int .i64 (k:Int)∧run eK (ts.take k)=.ok st∧PI B B wr st none v∧ae wr (B+1) 79 (bound B)∧Below B w2 wr)
  case atStart=>exact⟨0,eK,_,rfl,by omega,rfl,rfl,I0.out,K0.out,T0.out⟩
  case round=>
   obtain⟨k,st,v,au,hk,rfl,h1,h2,h3,h4⟩:=hrel;have Hg:=hide au;have H1:=hide h1;have I1:=hide h2;have K1:=hide h3;have T1:=hide h4;have Ok1:=hide (HS.out.ru k st (by rw[HP.out.1];exact h1));clear au h1 h2 h3 h4 I0 K0 T0
   by_cases hlt:k<N
   ·obtain⟨x,hx⟩:∃x,xs[k]?=some x:=⟨_,List.getElem?_eq_getElem (by rw[HN.out];exact hlt)⟩;obtain⟨b,off,rfl,hb,hat⟩:=uo.out.at_ hx;have eF:x.t∈ts:=by rw[←IK.out];exact List.mem_map_of_mem (List.mem_of_getElem? hx)
    have cN:ts[k]?=some x.t:=by rw[←IK.out,List.getElem?_map,hx];rfl
    have qV:=uo.out.sub x.g (List.mem_map_of_mem (List.mem_of_getElem? hx));have hsm:=HS.out.tk x.t (by rw[HP.out.1];exact eF);obtain⟨kn,vz,EG⟩:=agQ hsm;have y0:wr.cell? ⟨b,off+k*7,none⟩=some (.int .i8 (kn:Int)):=by rw[←vz];exact (T1.out.cell (p:=⟨b,off+k*7,none⟩) hb).trans hat.c0
    have yf:=ach K1.out EG;have ht:qx B wr b (off+k*7) x.t:=⟨hb,(T1.out.cell (p:=⟨b,off+k*7+1,none⟩) hb).trans hat.c1,(T1.out.cell (p:=⟨b,off+k*7+3,none⟩) hb).trans hat.c3,(T1.out.cell (p:=⟨b,off+k*7+4,none⟩) hb).trans hat.c4,(T1.out.cell (p:=⟨b,off+k*7+5,none⟩) hb).trans hat.c5⟩
    have iH:wr.cell? ⟨b,off+k*7+2,none⟩=some (.slice x.A x.t.attrs.length x.c):=by
     have:=(T1.out.cell (p:=⟨b,off+k*7+2,none⟩) hb).trans hat.c2;rwa[show x.g.ak.length=x.t.attrs.length from List.length_map _] at this
    have lG:Reads wr B 3 x.A x.t.attrs.length (ld (x.t.attrs.map At.g)):=by
     have:=qV.below T1.out;rwa[show x.g.ak.length=x.t.attrs.length from List.length_map _] at this
    have sK:=alr B B wr.drew st v b (off+k*7) x.t x.A x.c (I1.out.go (Below.refl _ _).drew) (by rw[←HB.out];exact T1.out.size) H6.out ((G2.out.below (by rw[HB.out];exact T1.out)).below (Below.refl _ _).drew) ⟨ht.lt,ht.c1,ht.c3,ht.c4,ht.c5⟩ iH lG hsm Ok1.out;rw[vz] at sK;have HSt:=hide sK;have IC:=hide (show run eK (ts.take (k+1))=Sx.step st x.t by rw[List.take_add_one,cN];show run eK (ts.take k++[x.t])=_;rw[Xx,H1.out]);have Qv:=hide hsm;have AH:=fun args w=>ad3 EG args w;generalize xz (kn:Int)=fn at *
    obtain⟨r,hr⟩:∃r,Sx.step st x.t=r:=⟨_,rfl⟩;have Hr:=hide hr;rw[hr] at HSt IC;clear hat hx eF cN qV hsm vz ht iH lG sK hr
    cases r with
    | error y=>
     have xH:R=.error y:=by
      obtain⟨q1,q2,q3⟩:=Jg HP.out;have:=aki IC.out (ts.drop (k+1));rw[List.take_append_drop] at this;rw[←HR.out,q1,q2,if_neg (by simpa using q3),this]
     subst xH;go_wp2
     go_region_with (refine HSt.out.mono ?_;rintro e w3 ⟨rfl,hm,st',v',hp⟩)
     all_goals
      have c4:=hp.c4;obtain⟨F,hF,Ta,J9⟩:=hp.bad;rw[Ta] at c4;have z0:=J9.cell 0;have z1:=J9.cell 1;have M3:=hide hm;have IL:=hide (show B≤wr.heap.size by rw[←HB.out];exact T1.out.size);clear hp hF Ta J9 hm;go_wp2
      go_quiet (fail)
      go_wp2;go_ret3;exact⟨below_drewN (B2.out.trans ((T1.out.trans (((aD.refl B B wr).drew.trans M3.out).below (C:=B) (Nat.le_refl _) (Nat.le_refl _) IL.out)).mono tV.out)) _,rfl⟩
    | ok st'=>
     go_wp2
     go_region_with (refine HSt.out.mono ?_;rintro e w3 ⟨rfl,hm,v',hp⟩)
     all_goals
      have c4:=hp.c4;rw[hp.tM] at c4;have P3:=hide hp;have M3:=hide hm;have IL:=hide (show B≤wr.heap.size by rw[←HB.out];exact T1.out.size);clear hp hm;go_wp2
      go_roundg (N-(k+1))
      case measure=>have:=Hg.out;omega
      case rel=>
       have Uv:aD B B wr w3:=(aD.refl B B wr).drew.trans M3.out;exact⟨k+1,st',v',rfl,by omega,by first|rfl|go_num,IC.out,P3.out,Uv.blk K1.out (by omega) (by decide),T1.out.trans (Uv.below (Nat.le_refl _) (Nat.le_refl _) IL.out)⟩
   have mX:k=N:=by omega
   subst mX;have hall:ts.take k=ts:=List.take_of_length_le (by rw[←IK.out,List.length_map,HN.out];exact Nat.le_refl _);have hrun:=H1.out;rw[hall] at hrun
   have xH:R=if st.open_=[]∧st.gu=true then .ok st.evs else .error (D.length,50):=by
    obtain⟨q1,q2,q3⟩:=Jg HP.out;rw[←HR.out,q1,q2,if_neg (by simpa using q3),hrun]
   have G8:=hide xH;have c0:=I1.out.c;have c3:=I1.out.c3;obtain⟨no,hno⟩:∃no,st.open_.length=no:=⟨_,rfl⟩;have fh:=hide hno;rw[hno] at c0;obtain⟨ro,hro⟩:∃ro,st.gu=ro:=⟨_,rfl⟩;have jx:=hide hro;rw[hro] at c3;have yT:=hide (B2.out.trans (T1.out.mono (by have:=B2.out.size;have:=HB.out;omega)));clear hall hrun xH hno hro HR
   by_cases h0:no=0
   ·subst h0;have ho:st.open_=[]:=List.eq_nil_of_length_eq_zero fh.out
    cases ro with
    | true=>
     have gW:R=.ok st.evs:=by rw[G8.out,if_pos ⟨ho,jx.out⟩]
     have c2:=I1.out.c2;obtain⟨ne,hne⟩:∃ne,v.xs.length=ne:=⟨_,rfl⟩;rw[hne] at c2;have Hne:=hide hne;subst gW;clear ho hne;go_wp2;go_ret3;refine⟨yT.out,v.xs,v.Ae,v.ce,I1.out.ev,?_,yD I1.out.e,Reads.eH I1.out.e,(zQ I1.out.e).more tV.out,Cu I1.out.e,fun x hx=>⟨(I1.out.gH x hx).a,(I1.out.gH x hx).va.more tV.out,(I1.out.gH x hx).ta⟩⟩;rw[Hne.out];rfl
    | false=>
     have gW:R=.error (s.size,50):=by rw[G8.out,if_neg (by rw[jx.out];simp),cf.out]
     subst gW;clear ho;go_wp2;go_ret3;exact⟨yT.out,rfl⟩
   have gW:R=.error (s.size,50):=by rw[G8.out,if_neg (by intro h;apply h0;rw[←fh.out,h.1];rfl),cf.out]
   have kp:0<no:=by omega
   subst gW;clear h0;go_wp2;go_ret3;exact⟨yT.out,rfl⟩
end
section
open Go.RowKit Tk Sx

structure Zg(w:World)(b o:Nat)(x:Ew):Prop where
 c0:w.cell? ⟨b,o,none⟩=some (.int .i8 (x.e.kind:Int))
 c1:w.cell? ⟨b,o+1,none⟩=some (.string (aa x.e.name.ns))
 c2:w.cell? ⟨b,o+2,none⟩=some (.string (aa x.e.name.loc))
 c3:w.cell? ⟨b,o+3,none⟩=some (.slice x.A x.e.attrs.length x.c)
 c4:w.cell? ⟨b,o+4,none⟩=some (.string (aa x.e.text))
structure Y3(w:World)(b o:Nat)(x:eZ):Prop where
 c0:w.cell? ⟨b,o,none⟩=some (.string (aa x.name.ns))
 c1:w.cell? ⟨b,o+1,none⟩=some (.string (aa x.name.loc))
 c2:w.cell? ⟨b,o+2,none⟩=some (.string (aa x.val))
structure oN(w:World)(B:Nat)(A:Option Addr)(xs:List Ew):Prop where
 row:Reads w B 5 A xs.length (gS xs)
 sub:∀x∈xs,Reads w B 3 x.A x.e.attrs.length (iX x.e.attrs)
section
variable {w w':World} {B B':Nat} {A:Option Addr} {xs:List Ew}
theorem oN.below(h:oN w B A xs)(hb:Below B w w'):oN w' B A xs:=⟨h.row.below hb,fun x hx=>(h.sub x hx).below hb⟩
theorem oN.more(h:oN w B A xs)(hB:B≤B'):oN w B' A xs:=⟨h.row.more hB,fun x hx=>(h.sub x hx).more hB⟩
theorem oN.at_(h:oN w B A xs){k:Nat}{x:Ew}(hx:xs[k]?=some x):∃b off,A=some ⟨b,off,none⟩∧b<B∧Zg w b (off+k*5) x:=by
 obtain⟨hk,he⟩:=List.getElem?_eq_some_iff.1 hx;obtain⟨b,off,hA,hb,hc⟩:=h.row.2 (by omega)
 have hf:∀j,j<5→(gS xs)[k*5+j]?=(dQ x)[j]?:=fun j hj=>by
  unfold gS;rw[xy DW xs k hk j hj,he]
 refine⟨b,off,hA,hb,?_⟩
 constructor
 ·have:=hc (k*5+0) _ (hf 0 (by omega));simpa using this
 ·have:=hc (k*5+1) _ (hf 1 (by omega));rwa[←Nat.add_assoc] at this
 ·have:=hc (k*5+2) _ (hf 2 (by omega));rwa[←Nat.add_assoc] at this
 ·have:=hc (k*5+3) _ (hf 3 (by omega));rwa[←Nat.add_assoc] at this
 have:=hc (k*5+4) _ (hf 4 (by omega));rwa[←Nat.add_assoc] at this
theorem Jj{l:List eZ}(h:Reads w B 3 A l.length (iX l)){k:Nat}{x:eZ}(hx:l[k]?=some x):∃b off,A=some ⟨b,off,none⟩∧b<B∧Y3 w b (off+k*3) x:=by
 obtain⟨hk,he⟩:=List.getElem?_eq_some_iff.1 hx;obtain⟨b,off,hA,hb,hc⟩:=h.2 (by omega)
 have hf:∀j,j<3→(iX l)[k*3+j]?=(l8 x)[j]?:=fun j hj=>by
  unfold iX;rw[xy abL l k hk j hj,he]
 refine⟨b,off,hA,hb,?_⟩
 constructor
 ·have:=hc (k*3+0) _ (hf 0 (by omega));simpa using this
 ·have:=hc (k*3+1) _ (hf 1 (by omega));rwa[←Nat.add_assoc] at this
 have:=hc (k*3+2) _ (hf 2 (by omega));rwa[←Nat.add_assoc] at this
end
end
section
open Go.RowKit Tk Sx Go.WideShapes

theorem Jp(a b:L):((aa a).toList=(aa b).toList)↔a=b:=by
 rw[ByteArray.toList_eq,ByteArray.toList_eq]
 constructor
 ·intro h;exact str_inj (by rw[ByteArray.ext_iff];exact Array.toList_inj.1 h)
 rintro rfl;rfl
def eD(x y:Nm):Bool:=decide (x.ns=y.ns)&&decide (x.loc=y.loc)
theorem zZ(x y:Nm):eD x y=true↔x=y:=by
 unfold eD;obtain⟨a,b⟩:=x;obtain⟨a',b'⟩:=y;simp only[Bool.and_eq_true,decide_eq_true_eq,Nm.mk.injEq]
theorem DV(w:World)(x y:Nm):(binOp .eql 45 (.agg #[.string (aa x.ns),.string (aa x.loc)]) (.agg #[.string (aa y.ns),.string (aa y.loc)])).run Tryz.prog w=.ok (.bool (eD x y)) w:=by
 unfold eD;go_simp;simp only[Jp];obtain⟨a,b⟩:=x;obtain⟨a',b'⟩:=y;dsimp only
 (repeat' split)<;>simp_all
theorem W8{H:Type}{e:TypeId}(he:Tryz.prog.underlying e=some .bool){v:Value}{z:DataW H×List MemPlace}(h:plainElem Tryz.prog e v=some z):∃x,v=.bool x∧z=(.lit (.bool x),[]):=by
 unfold plainElem at h;rw[he] at h
 cases v<;>simp at h
 subst h;exact⟨_,rfl,rfl⟩
theorem YZ(w:World):(zeroValue 4).run Tryz.prog w=.ok (.bool false) w:=by kernel_rfl
structure kY(W:World)(mb n:Nat)(seen:List Nm)(D:DataW Unit):Prop where
 own:W.ownsMap Tryz.prog 45 (plainElem Tryz.prog 4) mb n D
 is:Maps.IsMap D
 ok:∀x:Nm,gP x→D.atKey (ky x) (.lit (.bool false))=.lit (.bool (decide (x∈seen)))
theorem kY.new(w:World):kY (w.alloc (.map #[] 0)) w.heap.size 0 [] (.map []):=⟨World.ownsMap_made _ _ _ _,Maps.isMap_empty,fun _ _=>by simp[DataW.atKey]⟩
theorem kY.same{W W':World}{mb n:Nat}{seen:List Nm}{D:DataW Unit}(h:kY W mb n seen D)(e:W'.heap[mb]?=W.heap[mb]?):kY W' mb n seen D:=⟨ox h.own e,h.is,h.ok⟩
theorem kY.lt{W:World}{mb n:Nat}{seen:List Nm}{D:DataW Unit}(h:kY W mb n seen D):mb<W.heap.size:=h.own.lt
theorem kY.next{W W':World}{mb n:Nat}{seen:List Nm}{D:DataW Unit}{x:Nm}(h:kY W mb n seen D)(hx:gP x)(ho:W'.ownsMap Tryz.prog 45 (plainElem Tryz.prog 4) mb (n+1) (D.put (ky x) (.lit (.bool true)))):kY W' mb (n+1) (x :: seen) (D.put (ky x) (.lit (.bool true))):=by
 refine⟨ho,h.is.put _ _,fun y hy=>?_⟩
 by_cases hm:y=x
 ·subst hm;rw[Maps.atKey_put_same h.is (k:=ky y) (by simp[WideAt.IsKeyLit,ky])];simp
 rw[Maps.atKey_put_other (fun e=>hm (VB hy hx e)),h.ok y hy];simp[hm]
theorem kY.find{W:World}{mb n:Nat}{seen:List Nm}{D:DataW Unit}(h:kY W mb n seen D){x:Nm}(hx:gP x) :
  (Instr.lookup 185 (.map (some mb)) (tG x) false).run Tryz.prog W=.ok (.bool (decide (x∈seen))) W:=by
 obtain⟨v,ps,hrun,hv⟩:=h.own.lookup Fv Tryz.underlying185 (YZ W) (plainElem_bool Tryz.underlying4 false) (ye hx);obtain⟨c,rfl,hc⟩:=W8 Tryz.underlying4 hv;simp only[Prod.mk.injEq] at hc;have hr:=hc.1;rw[h.ok x hx] at hr;simp only[DataW.lit.injEq,Lit.bool.injEq] at hr;subst hr;exact hrun
theorem uJ(t:L):(aa t).toList.isEmpty=t.isEmpty:=by rw[ByteArray.toList_eq];rfl
theorem sx{t:L}(h:t≠[]):(aa t).toList.isEmpty=false:=by
 rw[uJ]
 cases t with
 | nil=>exact absurd rfl h
 | cons a t=>rfl
theorem adO(x:Ew)(w:World)(hf:Evs.tP x.e)(hr:Reads w w.heap.size 3 x.A x.e.attrs.length (iX x.e.attrs))(hn:x.e.attrs.length≤1000000)(hs:∀a∈x.e.attrs,gP a.name) :
  Calls Tryz.prog 102 #[.agg (dQ x).toArray] w fun e w'=>e=.returned (.bool true)∧Below w.heap.size w w':=by
 obtain⟨⟨kd,⟨ns,loc⟩,ak,tx⟩,A,c⟩:=x;dsimp only at hf hr hn hs;have HO:=hide (az w (.cells (dQ ⟨⟨kd,⟨ns,loc⟩,ak,tx⟩,A,c⟩).toArray 50));have HT:=hide (ae.new w 50 (dQ ⟨⟨kd,⟨ns,loc⟩,ak,tx⟩,A,c⟩).toArray);have hE:∀W:World,(binOp .eql 45 (.agg #[.string (aa ns),.string (aa loc)]) (.agg #[.string ⟨#[]⟩,.string ⟨#[]⟩])).run Tryz.prog W=.ok (.bool (eD ⟨ns,loc⟩ ⟨[],[]⟩)) W:=fun W=>DV W ⟨ns,loc⟩ ⟨[],[]⟩;unfold Evs.tP FC at hf;unfold dQ at HO HT ⊢;dsimp only at hf hE HO HT ⊢;have t0:=HT.out.cell 0;have t1:=HT.out.cell 1;have t2:=HT.out.cell 2;have t3:=HT.out.cell 3;have t4:=HT.out.cell 4
 rcases hf with ⟨rfl,h1,h2,h3,h4⟩|⟨rfl,h1,rfl,rfl⟩|⟨rfl,h1,rfl,h2⟩
 ·have e1:=sx h1;have hq:eD ⟨ns,loc⟩ ⟨[],[]⟩=false:=by unfold eD;rw[decide_eq_false (p:=loc=[]) h1];simp
  simp only[hq] at hE;subst h2;rw[show ((0:Nat):Int)=0 from rfl] at HO HT t0 ⊢;have Hr:=hide hr;have Hs:=hide hs;have Hnd:=hide h3;have Hlc:=hide h4;have jk:=@run_makeMap Tryz.prog;have pQ:=hide (kY.new (w.alloc (.cells #[.int .i8 0,.string (aa ns),.string (aa loc),.slice A ak.length c,.string (aa [])] 50)));have kJ:=hide (HO.out.trans ((az (w.alloc (.cells #[.int .i8 0,.string (aa ns),.string (aa loc),.slice A ak.length c,.string (aa [])] 50)) (.map #[] 0)).mono (by simp)));have dE:=hide (HT.out.alloc (.map #[] 0));rw[World.size_alloc] at pQ;obtain⟨N,hN⟩:∃N,ak.length=N:=⟨_,rfl⟩;have HN:=hide hN;rw[hN] at HT HO pQ kJ dE Hr hn t3 ⊢;have m1:=dE.out.cell 0;have m2:=dE.out.cell 1;have m3:=dE.out.cell 2;have m4:=dE.out.cell 3;have m5:=dE.out.cell 4;clear hr hs h1 h3 h4 hq hN
  go_enter Tryz.func102,Tryz.ntmps102
  go_wp2;clear t0 t1 t2 t3 t4 m1 m2 m3 m4 m5 jk hE;obtain⟨W0,nW⟩:∃W0,(w.alloc (.cells #[.int .i8 0,.string (aa ns),.string (aa loc),.slice A N c,.string (aa [])] 50)).alloc (.map #[] 0)=W0:=⟨_,rfl⟩;rw[nW] at pQ kJ dE ⊢;have hz0:W0.heap.size=w.heap.size+2:=by rw[←nW];simp
  clear nW
  go_loopg [50,6] N (fun gk v50 v6 wr=>∃(i:Nat) (D:DataW Unit),v50=.int .i64 (i:Int)∧gk=N-i∧i≤N∧kY wr (w.heap.size+1) i ((ak.take i).map (·.name)).reverse D∧Below w.heap.size w wr∧ae wr w.heap.size 50 #[.int .i8 0,.string (aa ns),.string (aa loc),.slice A N c,.string (aa [])])
  case atStart=>exact⟨0,_,rfl,rfl,by omega,pQ.out,kJ.out,dE.out⟩
  case round=>
   obtain⟨i,D,rfl,au,hi,x5,hb,ht⟩:=hrel;have dF:=hide au;have rY:=hide x5;have HB:=hide hb;have lV:=hide ht;clear au x5 hb ht
   by_cases hlt:i<N
   ·obtain⟨a,ha⟩:∃a,ak[i]?=some a:=⟨_,List.getElem?_eq_getElem (by rw[HN.out];exact hlt)⟩;have et:Reads wr w.heap.size 3 A ak.length (iX ak):=by rw[HN.out];exact Hr.out.below HB.out
    obtain⟨b,off,rfl,jC,hx⟩:=Jj et ha;have x0:=hx.c0;have x1:=hx.c1;have x2:=hx.c2;have hsm:=Hs.out a (List.mem_of_getElem? ha);have el:=sx (Hlc.out a (List.mem_of_getElem? ha))
    have xX:decide (a.name∈((ak.take i).map (·.name)).reverse)=false:=by
     refine decide_eq_false fun h=>?_;rw[List.mem_reverse] at h;obtain⟨y,hy,e⟩:=List.mem_map.1 h;obtain⟨k,hk,e2⟩:=List.getElem_of_mem hy;rw[List.length_take] at hk;rw[List.getElem_take] at e2;have AX:k<i:=by omega
     have nc:=List.pairwise_iff_getElem.1 (List.nodup_iff_pairwise_ne.1 Hnd.out) k i (by rw[List.length_map];omega) (by rw[List.length_map,HN.out];exact hlt) AX;rw[List.getElem_map,List.getElem_map,e2,e] at nc;exact nc (by rw[(List.getElem?_eq_some_iff.1 ha).2])
    have hC:=az wr (.cells #[.string (aa a.name.ns),.string (aa a.name.loc),.string (aa a.val)] 122);have KR:=(rY.out.same (hC.block _ rY.out.lt)).find hsm;rw[xX] at KR;unfold tG at KR;have PO:=hide hsm;have HC:=hide hC;have xc:=hide (show ((ak.take (i+1)).map (·.name)).reverse=a.name :: ((ak.take i).map (·.name)).reverse by rw[List.take_add_one,ha];simp);have kr:i<maxLen:=by unfold maxLen;omega
    have HK:=hide (ae.new wr 122 #[.string (aa a.name.ns),.string (aa a.name.loc),.string (aa a.val)]);clear ha et hx xX hsm hC;obtain⟨⟨an,al⟩,av⟩:=a;dsimp only at x0 x1 x2 el KR
    go_wp2_with (at_mapUpdate;refine wpList_mapUpdate_own _ rfl _ _ _ 185 rfl 45 4 Fv Tryz.underlying185 _ (w.heap.size+1) i D rfl (rY.out.same (HC.out.block _ rY.out.lt)).own kr _ _ _ (by rfl) (by rfl) (ye (x:=⟨an,al⟩) PO.out) _ [] (plainElem_bool Tryz.underlying4 true) ?_;intro w8 aM aF;have H8:=hide ((rY.out.same (HC.out.block _ rY.out.lt)).next PO.out aM);have ek:=hide aF;clear aM aF)
    go_roundg (N-(i+1))
    case measure=>have:=dF.out;omega
    case rel=>
     refine⟨i+1,_,by first|rfl|go_num,rfl,by omega,by rw[xc.out];exact H8.out,?_,?_⟩
     ·exact (HB.out.trans (HC.out.mono HB.out.size)).grown ek.out (HB.out.trans (HC.out.mono HB.out.size)).size (fun k e=>by injection e with e;omega)
     exact (lV.out.go HC.out).grown ek.out (by intro e;injection e with e;omega)
   have t1:=lV.out.cell 1;have t2:=lV.out.cell 2;have t4:=lV.out.cell 4;have e2:(aa ([]:L)).toList.isEmpty=true:=uJ [];go_wp2;go_ret;exact⟨rfl,HB.out⟩
 ·have e1:=sx h1;have hq:eD ⟨ns,loc⟩ ⟨[],[]⟩=false:=by unfold eD;rw[decide_eq_false (p:=loc=[]) h1];simp
  simp only[hq] at hE;have e2:(aa ([]:L)).toList.isEmpty=true:=uJ [];clear hr hn hs h1 hq
  go_enter Tryz.func102,Tryz.ntmps102
  go_wp2;go_ret;exact⟨rfl,HO.out⟩
 have e1:=sx h2;have hq:eD ⟨ns,loc⟩ ⟨[],[]⟩=true:=by rw[zZ];exact h1
 simp only[hq] at hE;clear hr hn hs h1 h2 hq
 go_enter Tryz.func102,Tryz.ntmps102
 go_wp2;go_ret;exact⟨rfl,HO.out⟩
end
section
open Go.RowKit Tk Sx Go.WideShapes

def nj(l:List Nat):List Value:=l.map fun (p:Nat)=>Value.int .i64 (p:Int)
theorem ahv(l:List Nat):(nj l).length=l.length:=List.length_map ..
theorem Mu(a b:List Nat):nj (a++b)=nj a++nj b:=List.map_append ..
theorem ahu{l:List Nat}{k p:Nat}(h:l[k]?=some p):(nj l)[k]?=some (.int .i64 (p:Int)):=by unfold nj;rw[List.getElem?_map,h];rfl
def jW(W:World)(base:Nat)(A:Option Addr)(n c:Nat)(l:List Nat):Prop :=
 W.ownsRow base 3 1 (.slice A n c) n (nj l)∨(c=n∧Reads W W.heap.size 1 A n (nj l)∧(A=none→n=0)∧∀a,A=some a→base≤a.block∧bO W a.block 3)
theorem jW.reads{W:World}{base n c:Nat}{A:Option Addr}{l:List Nat}(h:jW W base A n c l):Reads W W.heap.size 1 A n (nj l):=by
 rcases h with h|h
 ·exact Reads.eH h
 exact h.2.1
theorem jW.ab6{W:World}{base n c:Nat}{A:Option Addr}{l:List Nat}(h:jW W base A n c l):∀a,A=some a→base≤a.block∧bO W a.block 3:=by
 rcases h with h|h
 ·intro a ha;subst ha;refine aG h a.block ?_
  rcases h.2 with ⟨h0,_⟩|⟨g,cap,cur,e,_⟩
  ·cases h0
  cases e;rfl
 exact h.2.2.2
theorem jW.kept{W W':World}{base n c:Nat}{A:Option Addr}{l:List Nat}(h:jW W base A n c l)(hs:W.heap.size≤W'.heap.size)(hb:∀k,k<W.heap.size→bO W k 3→base≤k→W'.heap[k]?=W.heap[k]?):jW W' base A n c l:=by
 rcases h with h|⟨h1,h2,h3,h4⟩
 ·refine .inl ⟨h.1,?_⟩
  rcases h.2 with hn|⟨g,cap,cur,e,hg,hh,rest⟩
  ·exact .inl hn
  exact .inr ⟨g,cap,cur,e,hg,(hb g (Array.getElem?_eq_some_iff.1 hh).1 ⟨cur,_,hh⟩ hg).trans hh,rest⟩
 refine .inr ⟨h1,⟨h2.1,fun hn=>?_⟩,h3,fun a ha=>?_⟩
 ·obtain⟨b,off,e,hlt,hc⟩:=h2.2 hn;subst e;obtain⟨g1,g2⟩:=h4 _ rfl;exact⟨b,off,rfl,Nat.lt_of_lt_of_le hlt hs,fun j u hu=>(World.cell?_of_block (hb b hlt g2 g1)).trans (hc j u hu)⟩
 obtain⟨g1,g2⟩:=h4 a ha;obtain⟨cs,fr,g3⟩:=g2;exact⟨g1,cs,fr,(hb _ (Array.getElem?_eq_some_iff.1 g3).1 ⟨cs,fr,g3⟩ g1).trans g3⟩
theorem YS{W:World}{ops:Array Oper}{rest:List Oper}{o:Oper}{a:Act}{Q:Exit→Act→World→Prop}(hgd:o.guard=none)(s x:Operand)(t:TypeId)
  (ho:o.op=.call { callee:=.builtin .append,args:=#[s,x],argTypes:=#[t,t] }) (ht:Tryz.prog.underlying t=some (.slice 3)) (base:Nat) (A:Option Addr) (n c:Nat) (l:List Nat) (p:Nat)
  (hs:a.eval s=.slice A n c) (h:jW W base A n c l) (hx:a.eval x=.slice (some ⟨W.heap.size,0,none⟩) 1 1) (hn:n≤100000000) (hbase:base≤W.heap.size)
  (hK:∀g cap w' row,w'.ownsRow base 3 1 (.slice (some ⟨g,0,none⟩) (n+1) cap) (n+1) (nj (l++[p]))→W.grownBy w' row→(∀k,row=some k→base≤k∧bO W k 3)→
   wpList Tryz.prog ops Q rest (a.put o.dst (.slice (some ⟨g,0,none⟩) (n+1) cap)) w'):wpList Tryz.prog ops Q (o :: rest) a (W.alloc (.cells #[.int .i64 (p:Int)] 3)):=by
 rcases h with h|⟨h1,h2,h3,h4⟩
 ·refine fG W hgd s x t ho base (.int .i64 0) 1 8 ht fD rfl (by omega) (.slice A n c) n (nj l) hs h (cs:=[.int .i64 (p:Int)]) rfl (by simp[Value.oneCell']) hx (by unfold maxLen;omega) (by omega) hbase ?_;intro g cap w' hown hgrow _ _ _;exact hK g cap w' _ (by rw[Mu];exact hown) hgrow (aG h)
 obtain⟨i,hi,hz,hsize,hby⟩:=info_parts fD;subst h1;refine wpList_append_grows (W.alloc (.cells #[.int .i64 (p:Int)] 3)) hgd s x t ho 3 i (.int .i64 0) 1 8 ht hi hz hsize hby rfl (by omega) A c c (nj l) hs (fun e=>⟨h3 e,h3 e⟩) (by have:=h2.1;omega) ?_ ⟨W.heap.size,0,none⟩ 1 1 [.int .i64 (p:Int)] hx rfl ?_ (by simp[Value.oneCell']) (by omega) (by unfold maxLen;omega) (by omega) ?_
 ·intro b hb j u hu;have hj:=(List.getElem?_eq_some_iff.1 hu).1;obtain⟨b',off,e,hlt,hc⟩:=h2.2 (by have:=h2.1;omega);rw[hb] at e;cases e;have bf:=hc j u hu;have h5:(W.alloc (.cells #[.int .i64 (p:Int)] 3)).cell? ⟨b',off+j,none⟩=some u:=(World.cell?_of_block (Below.heap_alloc _ _ _ hlt)).trans bf;rw[Addr.add_lit];exact h5
 ·intro j u hu;exact World.news_of_block (ae.new W 3 #[.int .i64 (p:Int)]) j u (by simpa using hu)
 intro v' w' hown hgrow;obtain⟨g,cap,hv,hb,hlt⟩:=hown.form (by omega);subst hv;refine hK g cap w' none (by rw[Mu];exact hown.mono (by simp;omega)) ⟨hgrow.os,hgrow.tape,hgrow.output,Nat.le_trans (by simp) hgrow.size,fun k hk _=>?_⟩ (fun k e=>by cases e);exact (hgrow.block k (by simp;omega) (by simp)).trans (Below.heap_alloc W _ k hk)
theorem Mg:Maps.Keyed Tryz.prog 3:=Maps.int_keyed Tryz.underlying3
def jJ(p:Nat):Lit:=.int .i64 (p:Int)
theorem keyOf_int{p:Nat}(h:p≤1000000000):keyOf Tryz.prog 3 (.int .i64 (p:Int))=some (jJ p):=by
 exact Maps.keyOf_int_mk Tryz.underlying3 (WalkArith.wf_i64 (by omega))
structure fJ(W:World)(mb n:Nat)(m:List (Nat×Nat))(D:DataW Unit):Prop where
 own:W.ownsMap Tryz.prog 3 (plainElem Tryz.prog 3) mb n D
 is:Maps.IsMap D
 no:∀p,Evs.bj p m=none→Maps.has D (jJ p)=false∧D.atKey (jJ p) (.lit (.int .i64 0))=.lit (.int .i64 0)
 yes:∀p k,Evs.bj p m=some k→Maps.has D (jJ p)=true∧D.atKey (jJ p) (.lit (.int .i64 0))=.lit (.int .i64 (k:Int))
theorem Ft{p q:Nat}(h:jJ p=jJ q):p=q:=by
 unfold jJ at h;injection h with _ h
 omega
theorem fJ.new(w:World):fJ (w.alloc (.map #[] 0)) w.heap.size 0 [] (.map []):=⟨World.ownsMap_made _ _ _ _,Maps.isMap_empty,fun _ _=>⟨rfl,rfl⟩,fun _ _ h=>by cases h⟩
theorem fJ.same{W W':World}{mb n:Nat}{m:List (Nat×Nat)}{D:DataW Unit}(h:fJ W mb n m D)(e:W'.heap[mb]?=W.heap[mb]?):fJ W' mb n m D:=⟨ox h.own e,h.is,h.no,h.yes⟩
theorem fJ.lt{W:World}{mb n:Nat}{m:List (Nat×Nat)}{D:DataW Unit}(h:fJ W mb n m D):mb<W.heap.size:=h.own.lt
theorem fJ.next{W W':World}{mb n p k:Nat}{m:List (Nat×Nat)}{D:DataW Unit}(h:fJ W mb n m D)(ho:W'.ownsMap Tryz.prog 3 (plainElem Tryz.prog 3) mb (n+1) (D.put (jJ p) (.lit (.int .i64 (k:Int))))):fJ W' mb (n+1) ((p,k) :: m) (D.put (jJ p) (.lit (.int .i64 (k:Int)))):=by
 refine⟨ho,h.is.put _ _,fun q hq=>?_,fun q k' hq=>?_⟩
 ·unfold Evs.bj at hq
  split at hq
  ·cases hq
  rename_i hne
  rw[Maps.has_put_other (fun e=>hne (Ft e).symm),Maps.atKey_put_other (fun e=>hne (Ft e).symm)];exact h.no q hq
 unfold Evs.bj at hq
 split at hq
 ·rename_i he
  dsimp only at he;subst he;cases hq;refine⟨?_,Maps.atKey_put_same h.is (k:=jJ p) (by simp[WideAt.IsKeyLit,jJ]) _ _⟩;exact Maps.has_put_same h.is (k:=jJ p) (by simp[WideAt.IsKeyLit,jJ]) _
 rename_i hne
 rw[Maps.has_put_other (fun e=>hne (Ft e).symm),Maps.atKey_put_other (fun e=>hne (Ft e).symm)];exact h.yes q k' hq
end
end Go.Proofs.YtnbmfljhbpfilaaGreatDoor
