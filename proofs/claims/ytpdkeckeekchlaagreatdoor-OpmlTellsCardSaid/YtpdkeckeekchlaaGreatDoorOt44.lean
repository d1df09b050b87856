/- Tokens: what a row's condition on the listed variables gives a walk; the wrap that keeps the condition and the world's shape; a row's last step. -/
import Derived.Test.YtpdkeckeekchlaaGreatDoorOt02
import Derived.Test.YtpdkeckeekchlaaGreatDoorRows
import Derived.ProofKit
import Derived.OpenShut
import Derived.LaidMore
import Derived.Lay
import Derived.HandedShaped
import Derived.Shelf.Vars
import Derived.SevenTiedAt
import Derived.Stop.Joined
set_option linter.unusedSimpArgs false
set_option linter.unusedVariables false
namespace Go.Proofs.YtpdkeckeekchlaaGreatDoor
section
open Go.ChangeShapes Go.WideShapes Go.ChangeAt Go.RowKit

theorem aiF:ownKnob Tryz.prog.godebug=none:=by kernel_rfl
section
variable {H:Type} {enc:TypeId×Value→H}
theorem aki{a:Assume}{C:Checked}{os:Os}{f:FuncId}{fn:Func}{s:ChangeSpec}{conds:List PathCond}{apart fresh handsOn again:Bool}{X:World→Array Value→Prop}
  (hX:∀(w w':World) (args:Array Value),w.heap=w'.heap→X w args→X w' args)
  (own:ownKnob C.prog.godebug=none) (started:os.Started) (ah0:C.prog.inits.idxOf? f=none) (wk:C.prog.funcs[f]?=some fn)
  (witness:∃(w:World) (tape:Tape) (i:Input),w.os=os∧(w.forCall tape i).Shaped C.prog∧i.vars=[]∧Input.okWide C.prog (w.forCall tape i) .any w.heap.size f i∧
   ((s.pre enc C.prog fn conds apart (w.forCall tape i).memory i.args∧X (w.forCall tape i).memory i.args)∧sizedMet enc C.prog fn (OpenSpec.ofChange s) apart (w.forCall tape i).memory i.args)∧a.holds C.prog (lone (Frame.enter C.prog f i.args .normal) [] (w.forCall tape i)))
  (contract:∀(W:World) (base:Nat) (args:Array Value) (ds gs:List (DataW H)) (before:List MemPlace),
   (∀(j:Nat) t v,fn.params[j]?=some t→args[j]?=some v→Value.okWide C.prog W .any base t v)→
   DataW.Whole enc C.prog fn.params.toList s.vars apart W args.toList ds gs before→
   conds.all (PathCond.test C.prog ⟨fn.params.toList,ds,s.plain.varTypes C.prog,gs⟩)=true→
   (DataW.weightsEach C.prog (fn.params.toList++s.plain.varTypes C.prog) (ds++gs)).all (·≤reachBytes)=true→X W args→W.ShapedOpen C.prog→
   Calls C.prog f args W fun e W'=>∃v,e=.returned v∧s.post enc C.prog fn apart fresh handsOn again W args v W') :
  ReturnsInHanded a C os f .any (fun w args=>(s.pre enc C.prog fn conds apart w args∧X w args)∧sizedMet enc C.prog fn (OpenSpec.ofChange s) apart w args) (s.post enc C.prog fn apart fresh handsOn again):=by
 refine returnsInHanded_of_calls own started ah0 witness ?_;intro w tape i _ tZ _ bK jx _;obtain⟨_,_,_,fn',afu,_,_,_,_,hval⟩:=bK;have e:fn'=fn:=Option.some.inj (afu.symm.trans wk);subst e;obtain⟨⟨⟨ds,gs,before,hw,hc⟩,hx⟩,hz⟩:=jx;have hw':=DataW.Whole.of_heap (w':=w.forCall tape i) (by rfl) hw;refine (contract (w.forCall tape i) w.heap.size i.args ds gs before hval hw' hc (hz.weights hw) (hX _ _ _ (by rfl) hx) tZ).mono fun e W' ⟨v,he,hp⟩=>?_;subst he;exact ChangeSpec.post_blind hp
theorem alq{P:Program}{f:Func}{s:ChangeSpec}{apart fresh handsOn again:Bool}{W W':World}{args:Array Value}{v:Value}{ds gs:List (DataW H)}{before pa pv:List MemPlace}
  (hW:DataW.Whole enc P f.params.toList s.vars apart W args.toList ds gs before)
  (dD:∀(b:Nat) (sp:Nat→Bool) (hd:Bool),DataW.TrodAll enc P W' b sp hd f.resultTypes.toList (v.resultList f.resultTypes.size) (s.fn H (ds++gs)).results [])
  (Ug:∀sp:Nat→Bool,(∀p∈before,sp p.block=true)→DataW.TrodAll enc P W' 0 sp true f.params.toList args.toList (s.fn H (ds++gs)).args pa)
  (Vx:∀sp:Nat→Bool,(∀p∈before,sp p.block=true)→DataW.TrodVars enc P W' sp s.vars (s.fn H (ds++gs)).vars pv)
  (cP:before=pa++pv) (hb:Below W.heap.size W W')
  (bK:∀(j:Nat) (t:TypeId) (r:Value),f.resultTypes[j]?=some t→(v.resultList f.resultTypes.size)[j]?=some r→Value.okWide P W' .any 0 t r) :
  s.post enc P f apart fresh handsOn again W args v W':=by
 have hlt:∀p∈before,p.block<W.heap.size:=fun p hp=>hW.lt p hp;have hold:∀p∈before,(fun b=>decide (b<W.heap.size)) p.block=true:=fun p hp=>by simpa using hlt p hp
 refine⟨ds,gs,before,[],pa,pv,hW,dD _ _ _,Ug _ hold,Vx _ hold,World.keptBut_mono (fun p hp=>⟨hp,?_⟩) (hb.frame (·∈before)),fun _=>?_⟩
 ·rw[cP,List.mem_append] at hp;exact Or.inr hp
 obtain⟨_,_,_,_,_,hz,hn⟩:=hW;refine⟨bK,_,_,([]++pa)++pv,⟨[]++pa,pv,trodAll_append (Ug _ (fun _ _=>rfl)) (dD _ _ _),Vx _ (fun _ _=>rfl),rfl,?_,?_⟩,?_⟩
 ·intro b off hp;have bB:MemPlace.cell b off∈before:=by rw[cP];simpa using hp
  rw[hb.frozen (hlt _ bB)];exact hz b off bB
 ·intro ha;have:=hn ha;rw[cP] at this
  simpa using this
 intro p hp _;rw[cP]
 simpa using hp
end
theorem ams{W:World}{name:String}{d:DataW Unit}{parts:List (DataW Unit)}{g t e n:Nat}{k:IntKind}{cs:Array Value}{fuel:Nat}{p:List MemPlace}(hd:d=.agg parts)
  (hg:Tryz.prog.globalNamed name=some g) (hv:W.var? Tryz.prog name=some cs) (hu:Tryz.prog.underlying t=some (.array n e)) (jM:Tryz.prog.underlying e=some (.int k)) (hce:Tryz.prog.cellsOf e=1)
  (h:DataW.trod (fun x:TypeId×Value=>()) Tryz.prog W 0 (fun _=>true) false fuel t cs.toList=some (d,p)) {r:Nat} {z:Int} (hr:r<n) (hz:parts[r]?=some (.lit (.int k z))):W.cell? ⟨g,r,none⟩=some (.int k z):=by
 subst hd;obtain⟨xs,m,_,ex,_,hl,tJ⟩:=DataW.trod_array hu h;have hE:=tJ r hr;rw[hce,Nat.mul_one,List.getElem?_eq_getElem (by omega)] at hE;obtain⟨z',e1,e2,_⟩:=DataW.trod_int jM hE;have e3:(xs.map (·.1))=parts:=(DataW.agg.inj (Prod.mk.inj ex).1).symm;rw[←e3,List.getElem?_map,List.getElem?_eq_getElem (by omega:r<xs.length),Option.map_some,e2] at hz
 have hzz:z'=z:=by
  simp only[Option.some.injEq,DataW.lit.injEq,Lit.int.injEq,true_and] at hz;exact hz
 subst hzz;rw[World.var?_cell hg hv r]
 have:cs.toList[r]?=some (.int k z'):=by
  have h0:((cs.toList.drop r).take 1)[0]?=some (.int k z'):=by rw[e1];rfl
  simpa using h0
 simpa using this
theorem WC{W:World}(h:W.ShapedOpen Tryz.prog):∃m,W.cell? ⟨0,0,none⟩=some (.int .i64 m) :=
 Go.Proofs.cell_of_shapedOpen_int (P:=Tryz.prog) (t:=3) (zero:=#[.int .i64 0]) h (of_decide_eq_true (by kernel_rfl)) (by kernel_rfl) (by kernel_rfl) (by kernel_rfl) (by kernel_rfl) Tryz.underlying3
theorem Tt : Tryz.prog.globalNamed "unicode.asciiFold" = some 3 := by kernel_rfl
theorem amn:(Tryz.prog.globals[3]?).map (·.type)=some 275:=by kernel_rfl
def Ti:List (DataW Unit):=match (Rows.laid_unicode_asciiFold:DataW Unit) with
 | .agg l=>l
 | _=>[]
theorem aeu:(Rows.laid_unicode_asciiFold:DataW Unit)=.agg Ti:=rfl
theorem c16:Tryz.prog.cellsOf 274=1:=by kernel_rfl
theorem We:(Rows.opmlTellsRow.laid.all fun x=>x.2.handleName?.isNone)=true:=by kernel_rfl
theorem alr{W:World}(h:W.ShapedOpen Tryz.prog):6≤W.heap.size:=by
 obtain⟨m,hm⟩:=WC h;have:=dE hm
 exact Nat.le_of_not_lt fun hlt=>by
  have hb:(((begin Tryz.prog (fun _ _=>0) default).world.heap[5]?).bind Obj.row?).isSome=true:=by kernel_rfl
  obtain⟨⟨zero,t⟩,h0⟩:=Option.isSome_iff_exists.1 hb;obtain⟨cs,hh,_⟩:=h.1 5 zero t (of_decide_eq_true (by kernel_rfl)) h0;have:=(Array.getElem?_eq_some_iff.1 hh).1;omega
theorem aeG{W:World}(h:laidMetH Tryz.prog Rows.opmlTellsRow.laid W)(hs:W.ShapedOpen Tryz.prog):Gl W:=by
 rw[MakeChecks.laidMetH_plain _ _ _ We] at h;obtain⟨ps,⟨g0,t0,cs0,f0,p0,q0,hg0,FJ,hv0,oM,⟨g1,t1,cs1,f1,p1,q1,hg1,lV,aU,dB,_,_⟩,_⟩,_,_⟩:=h;obtain rfl:=Option.some.inj (Tt.symm.trans hg1);obtain rfl:=Option.some.inj (amn.symm.trans lV);refine⟨WC hs,fun p hp=>?_⟩
 have hc:∀(r:Nat) (z:Int),r<128→Ti[r]?=some (.lit (.int .u16 z))→W.cell? ⟨3,r,none⟩=some (.int .u16 z):=fun r z hr hz=>
  ams aeu Tt aU Tryz.underlying275 Tryz.underlying274 c16 dB hr hz
 simp only[List.mem_cons,List.not_mem_nil,or_false] at hp
 rcases hp with rfl|rfl|rfl|rfl|rfl|rfl
 all_goals exact hc _ _ (by decide) (by kernel_rfl)
end
end Go.Proofs.YtpdkeckeekchlaaGreatDoor
