/- For every input, the law OpmlBack returns true and leaves its arguments as they were, where the listed tables read as the program's text lays them (the card ties them): what is written of outlines is well-formed, and read as the outlines. -/
import Derived.Test.YtifiiojchlaghaaGreatDoorCards
import Derived.Test.YtifiiojchlaghaaGreatDoorOk35
import Derived.Test.YtifiiojchlaghaaGreatDoorOk36
import Derived.Test.YtifiiojchlaghaaGreatDoorOk38
import Derived.Test.YtifiiojchlaghaaGreatDoorRows
import Derived.Test.YtifiiojchlaghaaGreatDoorTie
set_option linter.unusedSimpArgs false
set_option maxRecDepth 100000
set_option linter.unusedVariables false
namespace Go.Proofs.YtifiiojchlaghaaGreatDoor
section
open Go.ChangeShapes Go.WideShapes Go.ChangeAt Go.RowKit

theorem opmlBack_lifted(os:Os)(started:os.Started)(H:Type)(enc:TypeId×Value→H) :
  ReturnsInHanded {} Tryz.checked os 3 .any (fun w args=>(Rows.opmlBackSpec.pre enc Tryz.prog Tryz.f3 Rows.opmlBackRow.domain false w args∧laidMetH Tryz.prog Rows.opmlBackRow.laid w)∧sizedMet enc Tryz.prog Tryz.f3 (OpenSpec.ofChange Rows.opmlBackSpec) false w args)
   (Rows.opmlBackSpec.post enc Tryz.prog Tryz.f3 false true false false):=by
 refine returnsInHanded_of_both (C:=Tryz.checked) (X:=fun w _=>laidMetH Tryz.prog Rows.opmlBackRow.laid w) (fun _ _ _ hh h=>h.of_heap hh) own0 started (by kernel_rfl) Tryz.func3
  (ChangeSpec.witness_shaped (enc:=enc) (C:=Tryz.checked) (os:=os) (X:=fun w _=>laidMetH Tryz.prog Rows.opmlBackRow.laid w) false (World.laidAll Tryz.prog os Rows.opmlBackRow.laid) #[.slice none 0 0] 8 (World.laidAll_os _ _ _)
   (World.shaped_of_ZipB (by kernel_rfl) (by kernel_rfl)) (by kernel_rfl) (by kernel_rfl) (by kernel_rfl)
   (by rw[MakeChecks.laidMetH_plain _ _ _ (show (Rows.opmlBackRow.laid.all fun x=>x.2.handleName?.isNone)=true from laid_plain)];exact laidMet_laidAll _ (by kernel_rfl) (by kernel_rfl))) ?_
 intro W base args ds gs before hval0 hW hc _ hL hsh;have hval:∀(j:Nat) t v,Tryz.f3.params[j]?=some t→args[j]?=some v→Value.okWide Tryz.prog W .any base t v:=hval0;have hW':=hW;have hlt:∀p∈before,p.block<W.heap.size:=fun p hp=>hW'.lt p hp;obtain⟨p,q,hA0,hV,rfl,_,_⟩:=hW;have hA:DataW.TrodAll enc Tryz.prog W 0 (fun _=>true) true Tryz.f3.params.toList args.toList ds p:=hA0;rw[Tryz.params3] at hA hval;obtain⟨v0,d0,rfl,rfl,h0⟩:=trodAll_one hA;obtain⟨rfl,rfl⟩:=trodVars_none hV;obtain⟨A0,c0,l0,rfl,hr0,hc0⟩:=open_outs (hval 0 22 v0 rfl rfl) h0;clear hA0 hval0;simp only[List.append_nil,List.nil_append] at hW' hlt;refine (lawBack_any l0 A0 c0 W (gl_laid hL hsh) (size_shape hsh) hr0 hc0).mono fun e W' ⟨he,hw⟩=>?_;subst he;have hs:∀x∈p,W.sameAt W' x:=fun x hx=>hw.same (hlt x (by simpa using hx))
 exact⟨_,rfl,shut_below (pa:=p) (pv:=[]) hW' (fun _ _ _=>trodAll_mk1 (shut_bool Tryz.underlying4 true)) (fun sp hsp=>trodAll_mk1 (stays_outs h0 hs (fun p hp=>hsp p hp))) (fun _ _=>rfl) (by simp)
  hw (ok_one (by kernel_rfl) rfl (okWide_bool_mk Tryz.underlying4 true))⟩

theorem opmlBack_row:Rows.OpmlBackSaid :=
 OpenClaim.holds_of_wide 3 Tryz.f3 rfl rfl rfl rfl rfl rfl rfl ⟨rfl,rfl,rfl,rfl,rfl⟩ rfl rfl rfl rfl rfl (by kernel_rfl) Tryz.func3 (by kernel_rfl)
  (of_decide_eq_true (by kernel_rfl)) (by unfold Func.isWrapper;first | (rw[if_pos (by decide +kernel)];kernel_rfl) | (rw[if_neg (by decide +kernel)];exact⟨rfl,rfl⟩))
  (fun os started H enc _=>opmlBack_lifted os started H enc)
theorem opmlBack_card:Rows.OpmlBackCardSaid :=
 Claim7.holds_tied_plain_at .later [] [.data, .data, .data, .pinned, .pinned] true (true, "a58dc54de355c6d45f9b24188876e20f64e5d00743071bf961ea9839ee79bdf2") false opmlBack_row (fun _ h => by cases h) (by kernel_rfl) (fun _ h => by cases h) opmlBack_row_tie rfl ⟨rfl, rfl⟩ (by kernel_rfl) rfl
  (fun f fn hf hfn=>by
   obtain rfl : f = 3 := Option.some.inj ((show Tryz.prog.funcNamed "carding/cardinglaw32.OpmlBack" = some 3 by kernel_rfl).symm.trans hf) |>.symm
   obtain rfl:fn=Tryz.f3:=(Option.some.inj (Tryz.func3.symm.trans hfn)).symm
   exact⟨by kernel_rfl,fun j t ht=>by
    rw[Tryz.params3] at ht;have hm:t∈[22]:=by simpa using Array.mem_of_getElem? ht
    have hall:([22].all fun u=>!Tryz.prog.wantsStandIn u)=true:=by kernel_rfl
    have:=List.all_eq_true.1 hall t hm;have h2:Tryz.prog.wantsStandIn t=false:=by simpa using this
    exact h2⟩)
  (by kernel_rfl)
end
end Go.Proofs.YtifiiojchlaghaaGreatDoor
