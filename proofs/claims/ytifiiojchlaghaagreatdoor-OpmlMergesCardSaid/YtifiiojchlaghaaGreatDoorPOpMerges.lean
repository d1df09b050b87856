/- For every input, the law OpmlMerges returns true and leaves its arguments as they were, where the listed tables read as the program's text lays them (the card ties them): merging outlines goes on, with itself and with nothing is nothing, and has each Url once. -/
import Derived.Test.YtifiiojchlaghaaGreatDoorCards
import Derived.Test.YtifiiojchlaghaaGreatDoorOm42
import Derived.Test.YtifiiojchlaghaaGreatDoorOm43
import Derived.Test.YtifiiojchlaghaaGreatDoorOm45
import Derived.Test.YtifiiojchlaghaaGreatDoorRows
import Derived.Test.YtifiiojchlaghaaGreatDoorTie
set_option linter.unusedSimpArgs false
set_option maxRecDepth 100000
set_option linter.unusedVariables false
namespace Go.Proofs.YtifiiojchlaghaaGreatDoor
section
open Go.ChangeShapes Go.WideShapes Go.ChangeAt Go.RowKit

theorem agf(os:Os)(started:os.Started)(H:Type)(enc:TypeId×Value→H) :
  ReturnsInHanded {} Tryz.checked os 4 .any (fun w args=>(Rows.opmlMergesSpec.pre enc Tryz.prog Tryz.f4 Rows.opmlMergesRow.domain false w args∧laidMetH Tryz.prog Rows.opmlMergesRow.laid w)∧sizedMet enc Tryz.prog Tryz.f4 (OpenSpec.ofChange Rows.opmlMergesSpec) false w args)
   (Rows.opmlMergesSpec.post enc Tryz.prog Tryz.f4 false true false false):=by
 refine ahR (C:=Tryz.checked) (X:=fun w _=>laidMetH Tryz.prog Rows.opmlMergesRow.laid w) (fun _ _ _ hh h=>h.of_heap hh) ago started (by kernel_rfl) Tryz.func4
  (ChangeSpec.witness_shaped (enc:=enc) (C:=Tryz.checked) (os:=os) (X:=fun w _=>laidMetH Tryz.prog Rows.opmlMergesRow.laid w) false (World.laidAll Tryz.prog os Rows.opmlMergesRow.laid) #[.slice none 0 0,.slice none 0 0,.slice none 0 0] 8 (World.laidAll_os _ _ _)
   (World.shaped_of_ZipB (by kernel_rfl) (by kernel_rfl)) (by kernel_rfl) (by kernel_rfl) (by kernel_rfl)
   (by rw[MakeChecks.laidMetH_plain _ _ _ (show (Rows.opmlMergesRow.laid.all fun x=>x.2.handleName?.isNone)=true from Ur)];exact laidMet_laidAll _ (by kernel_rfl) (by kernel_rfl))) ?_
 intro W base args ds gs before TH hW hc _ hL vM;have hval:∀(j:Nat) t v,Tryz.f4.params[j]?=some t→args[j]?=some v→Value.okWide Tryz.prog W .any base t v:=TH;have JT:=hW;have hlt:∀p∈before,p.block<W.heap.size:=fun p hp=>JT.lt p hp;obtain⟨p,q,Rt,hV,rfl,_,_⟩:=hW;have hA:DataW.TrodAll enc Tryz.prog W 0 (fun _=>true) true Tryz.f4.params.toList args.toList ds p:=Rt;rw[Tryz.params4] at hA hval;obtain⟨v0,v1,v2,d0,d1,d2,p0,p1,p2,rfl,rfl,rfl,h0,h1,h2⟩:=trodAll_three hA;obtain⟨rfl,rfl⟩:=trodVars_none hV;obtain⟨A0,c0,l0,rfl,pP,hc0⟩:=LR (hval 0 22 v0 rfl rfl) h0;obtain⟨A1,c1,l1,rfl,dS,cU⟩:=LR (hval 1 22 v1 rfl rfl) h1;obtain⟨A2,c2,l2,rfl,bu,bk⟩:=LR (hval 2 22 v2 rfl rfl) h2;clear Rt TH;simp only[List.append_nil,List.nil_append] at JT hlt;refine (afc l0 l1 l2 A0 A1 A2 c0 c1 c2 W (acC hL vM) (aiR vM) pP dS bu hc0 cU bk).mono fun e W' ⟨he,hw⟩=>?_;subst he;have hs:∀p∈p0++(p1++p2),W.sameAt W' p:=fun p hp=>hw.same (hlt p (by simpa using hp))
 exact⟨_,rfl,aiQ (pa:=p0++(p1++p2)) (pv:=[]) JT (fun _ _ _=>trodAll_mk1 (shut_bool Tryz.underlying4 true)) (fun sp hsp=>by
   have:=trodAll_mk3 (Mu h0 (fun p hp=>hs p (by simp[hp])) (fun p hp=>hsp p (by simp[hp]))) (Mu h1 (fun p hp=>hs p (by simp[hp])) (fun p hp=>hsp p (by simp[hp]))) (Mu h2 (fun p hp=>hs p (by simp[hp])) (fun p hp=>hsp p (by simp[hp])));exact this) (fun _ _=>rfl) (by simp)
  hw (ok_one (by kernel_rfl) rfl (okWide_bool_mk Tryz.underlying4 true))⟩

theorem agh:Rows.OpmlMergesSaid :=
 OpenClaim.holds_of_wide 4 Tryz.f4 rfl rfl rfl rfl rfl rfl rfl ⟨rfl,rfl,rfl,rfl,rfl⟩ rfl rfl rfl rfl rfl (by kernel_rfl) Tryz.func4 (by kernel_rfl)
  (of_decide_eq_true (by kernel_rfl)) (by unfold Func.isWrapper;first | (rw[if_pos (by decide +kernel)];kernel_rfl) | (rw[if_neg (by decide +kernel)];exact⟨rfl,rfl⟩))
  (fun os started H enc _=>agf os started H enc)
theorem opmlMerges_card:Rows.OpmlMergesCardSaid :=
 Claim7.holds_tied_plain_at .later [] [.data, .data, .data, .pinned, .pinned] true (true, "a58dc54de355c6d45f9b24188876e20f64e5d00743071bf961ea9839ee79bdf2") false agh (fun _ h => by cases h) (by kernel_rfl) (fun _ h => by cases h) opmlMerges_row_tie rfl ⟨rfl, rfl⟩ (by kernel_rfl) rfl
  (fun f fn hf vy=>by
   obtain rfl : f = 4 := Option.some.inj ((show Tryz.prog.funcNamed "carding/cardinglaw32.OpmlMerges" = some 4 by kernel_rfl).symm.trans hf) |>.symm
   obtain rfl:fn=Tryz.f4:=(Option.some.inj (Tryz.func4.symm.trans vy)).symm
   exact⟨by kernel_rfl,fun j t ht=>by
    rw[Tryz.params4] at ht;have hm:t∈[22,22,22]:=by simpa using Array.mem_of_getElem? ht
    have hall:([22,22,22].all fun u=>!Tryz.prog.wantsStandIn u)=true:=by kernel_rfl
    have:=List.all_eq_true.1 hall t hm;have h2:Tryz.prog.wantsStandIn t=false:=by simpa using this
    exact h2⟩)
  (by kernel_rfl)
end
end Go.Proofs.YtifiiojchlaghaaGreatDoor
