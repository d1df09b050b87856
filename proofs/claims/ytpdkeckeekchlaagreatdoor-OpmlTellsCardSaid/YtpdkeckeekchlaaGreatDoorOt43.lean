/- OpmlTells: the law's walk. -/
import Derived.Test.YtpdkeckeekchlaaGreatDoorOt42
set_option linter.unusedSimpArgs false
set_option maxRecDepth 100000
set_option maxHeartbeats 16000000
set_option linter.unusedVariables false
namespace Go.Proofs.YtpdkeckeekchlaaGreatDoor
section
open Go.RowKit Rec Tk Sx Go.WideShapes

theorem YR{b:Bool}{s:ByteArray}:∃t n,(if b=true then Value.tuple #[.string s,.int .i64 0] else .tuple #[.string ⟨#[]⟩,.int .i64 2])=.tuple #[.string t,.int .i64 n]:=by cases b<;>exact⟨_,_,rfl⟩
theorem ad3(l:List Sb):∃t n,Opm.exV l=.tuple #[.string t,.int .i64 n]:=by
 unfold Opm.exV;split
 ·exact YR
 exact⟨_,_,rfl⟩
theorem ahk(la lb:List aB)(A B C:Option Addr)(ca cb cc:Nat)(ls:List Sb)(w:World)(hg:Gl w)(jO:6≤w.heap.size)(hA:Reads w w.heap.size 2 A la.length (aM la))(hB:Reads w w.heap.size 2 B lb.length (aM lb))(hL:ot w w.heap.size C ls)
  (cn:la.length≤ca∧ca≤maxLen) (fc:lb.length≤cb∧cb≤maxLen) :
  Calls Tryz.prog 3 #[.slice A la.length ca,.slice B lb.length cb,.agg #[.slice C ls.length cc]] w fun e w'=>e=.returned (.bool true)∧Below w.heap.size w w':=by
 have DI:=ap (fun W (hb:Below w.heap.size w W)=>anm W (hg.below hb) (Nat.le_trans jO hb.size));have Z3:=ap (fun W (hb:Below w.heap.size w W)=>Pf la A ca w.heap.size W (hA.below hb) (Nat.le_trans cn.1 cn.2));have Z5:=ap (fun W (hb:Below w.heap.size w W)=>Pf lb B cb w.heap.size W (hB.below hb) (Nat.le_trans fc.1 fc.2));have Z6:=ap (fun W (hb:Below w.heap.size w W)=>aeL C cc ls W (hL.below hb));have eK:=ap (fun h=>Opm.Ty (l:=la) h);have sQ:=ap (fun h=>Opm.Ty (l:=lb) h);have qK:=ap (fun (hf:la.length≤70∧∀y∈la,y.pre.length≤300∧y.ns.length≤300) W (hb:Below w.heap.size w W)=>JM la A ca W ((hA.below hb).more hb.size) (fun y hy=>by have:=hf.2 y hy;omega) (by omega));have dP:=ap (fun (hf:la.length≤70∧∀y∈la,y.pre.length≤300∧y.ns.length≤300) W (hb:Below w.heap.size w W)=>XR la A ca W ((hA.below hb).more hb.size) hf.2 hf.1 cn.1);have IC:=ap (fun (hf:la.length≤70∧∀y∈la,y.pre.length≤300∧y.ns.length≤300) W (hb:Below w.heap.size w W)=>Rj la A ca W ((hA.below hb).more hb.size) (fun y hy=>by have:=hf.2 y hy;omega) (by omega))
 have n8:=ap (fun (hf:la.length≤70∧∀y∈la,y.pre.length≤300∧y.ns.length≤300) W (hb:Below w.heap.size w W)=>Re la A ca W ((hA.below hb).more hb.size) (fun y hy=>by have:=hf.2 y hy;omega) (by omega) cn.1)
 have zN:=ap (fun (hf:la.length≤70∧∀y∈la,y.pre.length≤300∧y.ns.length≤300) (nA:lb.length≤70∧∀y∈lb,y.pre.length≤300∧y.ns.length≤300) W (hb:Below w.heap.size w W)=>And.intro
  (abB la lb A B ca cb W ((hA.below hb).more hb.size) ((hB.below hb).more hb.size) (by omega) (by omega) (fun x hx=>(List.mem_append.1 hx).elim (fun h=>by have:=hf.2 x h;omega) (fun h=>by have:=nA.2 x h;omega)))
  (ajH la lb A B ca cb W ((hA.below hb).more hb.size) ((hB.below hb).more hb.size) (by omega) (by omega)))
 have uL:=ap (fun hs W (hb:Below w.heap.size w W)=>ahy C cc ls W (hL.below hb) hs);have bc:=ap (fun hs W (hb:Below w.heap.size w W)=>ajE C cc ls W (hL.below hb) hs)
 have eV:=ap (fun (h1:la.length≤70) (h2:lb.length≤70)=>show (Opm.gh la lb).length≤1000 from by
  have h3:=Opm.yV la [];have h4:=Opm.yV lb (Opm.eG [] la);unfold Opm.gh;simp only[List.length_nil] at h3
  omega)
 obtain⟨wt,we,hw⟩:=YR (b:=Opm.may la) (s:=aa (Opm.text la));obtain⟨xt,xe,hx⟩:=ad3 ls;rw[hw] at qK dP;rw[hx] at uL bc;have hz1:(wt.toList==wt.toList)=true:=by simp
 have hz2:(xt.toList==xt.toList)=true:=by simp
 have VI:(we==we)=true:=by simp
 have oV:(xe==xe)=true:=by simp
 have VJ:(Opm.may la==Opm.may la)=true:=by simp
 generalize Opm.may la=my at *
 generalize Opm.great la=ga at *
 generalize Opm.great lb=gb at *
 generalize la.length=na at *
 generalize lb.length=nb at *
 generalize ls.length=nc at *
 have cu:=ap (ay w (.cells #[.slice C nc cc] 25));have ia:=ap (ae.new w 25 #[.slice C nc cc]);clear hg jO hA hB hL cn fc hw hx
 go_enter Tryz.func3,Tryz.ntmps3
 go_wp2_with fail
 refine cq (Z3.o _ cu.o) ?_
 cases ga with
 | true=>
  go_wp2_with fail
  refine (DI.o _ cu.o).mono ?_;rintro e w9 ⟨rfl,b9⟩;have B9:=ap (cu.o.trans (b9.mono cu.o.size));clear b9;go_wp2;go_ret;exact⟨rfl,B9.o⟩
 | false=>
  go_wp2_with fail
  refine cq (Z5.o _ cu.o) ?_;have q0:=ia.o.cell 0
  cases gb with
  | true=>
   go_wp2_with fail
   refine (DI.o _ cu.o).mono ?_;rintro e w9 ⟨rfl,b9⟩;have B9:=ap (cu.o.trans (b9.mono cu.o.size));clear b9;go_wp2;go_ret;exact⟨rfl,B9.o⟩
  | false=>
   have hf:=eK.o (by trivial);have nA:=sQ.o (by trivial);have qK:=ap (qK.o hf);have dP:=ap (dP.o hf);have IC:=ap (IC.o hf);have n8:=ap (n8.o hf);have zN:=ap (zN.o hf nA);have jt:=eV.o hf.1 nA.1;clear hf nA eK sQ eV
   go_wp2_with fail
   refine (Z6.o _ cu.o).mono ?_;rintro e w1 ⟨⟨gs,rfl,LJ⟩,b⟩;have ax:=ap (cu.o.trans (b.mono cu.o.size));have gl:=ap (ia.o.below b ia.o.lt);have q1:=gl.o.cell 0;clear b;cases gs
   case' true=>
    go_wp2_with fail
    refine (DI.o _ ax.o).mono ?_;rintro e uz ⟨rfl,b⟩;have xh:=ap (ax.o.trans (b.mono ax.o.size));clear b;go_wp2;go_ret;exact⟨rfl,xh.o⟩
   have uL:=ap (uL.o (LJ rfl));have bc:=ap (bc.o (LJ rfl));clear LJ
   go_wp2_with fail
   refine (qK.o _ ax.o).mono ?_;rintro e w2 ⟨rfl,b⟩;have ag:=ap (ax.o.trans (b.mono ax.o.size));have bm:=ap (gl.o.below b gl.o.lt);have q2:=bm.o.cell 0;clear b
   go_wp2_with fail
   refine (dP.o _ ag.o).mono ?_;rintro e w3 ⟨rfl,b⟩;have aw:=ap (ag.o.trans (b.mono ag.o.size));have br:=ap (bm.o.below b bm.o.lt);have q3:=br.o.cell 0;clear b
   go_wp2_with fail
   refine (uL.o _ aw.o).mono ?_;rintro e w4 ⟨rfl,b⟩;have bW:=ap (aw.o.trans (b.mono aw.o.size));have kV:=ap (br.o.below b br.o.lt);have q4:=kV.o.cell 0;clear b
   go_wp2_with fail
   refine (bc.o _ bW.o).mono ?_;rintro e w5 ⟨rfl,b⟩;have iI:=ap (bW.o.trans (b.mono bW.o.size));have mW:=ap (kV.o.below b kV.o.lt);have q5:=mW.o.cell 0;clear b
   go_wp2_with fail
   refine (IC.o _ iI.o).mono ?_;rintro e w6 ⟨rfl,b⟩;have mU:=ap (iI.o.trans (b.mono iI.o.size));have pD:=ap (mW.o.below b mW.o.lt);have q6:=pD.o.cell 0;clear b
   go_wp2_with fail
   refine (n8.o _ mU.o).mono ?_;rintro e w7 ⟨rfl,b⟩;have zw:=ap (mU.o.trans (b.mono mU.o.size));have Dk:=ap (pD.o.below b pD.o.lt);have q7:=Dk.o.cell 0;clear b
   go_wp2_with fail
   refine (zN.o _ zw.o).1.mono ?_;rintro e w8 ⟨A1,c1,rfl,lQ,b⟩;have dY:=ap (zw.o.trans (b.mono zw.o.size));have QQ:=ap lQ;clear b lQ
   go_wp2_with fail
   refine (zN.o _ dY.o).2.mono ?_;rintro e w9 ⟨A2,c2,rfl,bg,b⟩;have uE:=ap (dY.o.trans (b.mono dY.o.size));have HS:=ap (abO (Opm.gh la lb) (Opm.gh la lb) A1 A2 c1 c2 _ _ w9 ((Reads.cY QQ.o).below b) (Reads.cY bg) (by omega));rw[decide_eq_true rfl] at HS;clear b bg QQ zN;generalize (Opm.gh la lb).length=N at *
   go_wp2_with fail
   refine HS.o.mono ?_;rintro e jc ⟨rfl,k,rfl⟩;have Ii:=ap (below_drewN uE.o k)
   go_wp2_with fail
   refine (DI.o _ Ii.o).mono ?_;rintro e uz ⟨rfl,b⟩;have xh:=ap (Ii.o.trans (b.mono Ii.o.size));clear b;go_wp2;go_ret;exact⟨rfl,xh.o⟩
end
end Go.Proofs.YtpdkeckeekchlaaGreatDoor
