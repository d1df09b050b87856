/- For every input, the law OpmlWithin returns true and leaves its arguments as they were, where the listed tables read as the program's text lays them (the card ties them): outlines within others that have no Url, within elements of other names, and beside them, are read as they are. -/
import Derived.Test.YtnbmfljhbpfilaaGreatDoorCards
import Derived.Test.YtnbmfljhbpfilaaGreatDoorOw42
import Derived.Test.YtnbmfljhbpfilaaGreatDoorOw43
import Derived.Test.YtnbmfljhbpfilaaGreatDoorOw45
import Derived.Test.YtnbmfljhbpfilaaGreatDoorRows
import Derived.Test.YtnbmfljhbpfilaaGreatDoorTie
set_option linter.unusedSimpArgs false
set_option maxRecDepth 100000
set_option linter.unusedVariables false
namespace Go.Proofs.YtnbmfljhbpfilaaGreatDoor
section
open Go.ChangeShapes Go.WideShapes Go.ChangeAt Go.RowKit

theorem ah3(os:Os)(started:os.Started)(H:Type)(enc:TypeId×Value→H) :
  ReturnsInHanded {} Tryz.checked os 3 .any (fun w args=>(Rows.opmlWithinSpec.pre enc Tryz.prog Tryz.f3 Rows.opmlWithinRow.domain false w args∧laidMetH Tryz.prog Rows.opmlWithinRow.laid w)∧sizedMet enc Tryz.prog Tryz.f3 (OpenSpec.ofChange Rows.opmlWithinSpec) false w args)
   (Rows.opmlWithinSpec.post enc Tryz.prog Tryz.f3 false true false false):=by
 refine ajQ (C:=Tryz.checked) (X:=fun w _=>laidMetH Tryz.prog Rows.opmlWithinRow.laid w) (fun _ _ _ hh h=>h.of_heap hh) aib started (by kernel_rfl) Tryz.func3
  (ChangeSpec.witness_shaped (enc:=enc) (C:=Tryz.checked) (os:=os) (X:=fun w _=>laidMetH Tryz.prog Rows.opmlWithinRow.laid w) false (World.laidAll Tryz.prog os Rows.opmlWithinRow.laid) #[.slice none 0 0,.int .i64 0,.int .i64 0,.int .i64 0] 8 (World.laidAll_os _ _ _)
   (World.shaped_of_ZipB (by kernel_rfl) (by kernel_rfl)) (by kernel_rfl) (by kernel_rfl) (by kernel_rfl)
   (by rw[MakeChecks.laidMetH_plain _ _ _ (show (Rows.opmlWithinRow.laid.all fun x=>x.2.handleName?.isNone)=true from VF)];exact laidMet_laidAll _ (by kernel_rfl) (by kernel_rfl))) ?_
 intro W base args ds gs before U8 hW hc _ hL vH;have hval:∀(j:Nat) t v,Tryz.f3.params[j]?=some t→args[j]?=some v→Value.okWide Tryz.prog W .any base t v:=U8;have Kr:=hW;have hlt:∀p∈before,p.block<W.heap.size:=fun p hp=>Kr.lt p hp;obtain⟨p,q,SY,hV,rfl,_,_⟩:=hW;have hA:DataW.TrodAll enc Tryz.prog W 0 (fun _=>true) true Tryz.f3.params.toList args.toList ds p:=SY;rw[Tryz.params3] at hA hval;obtain⟨v0,v1,v2,v3,d0,d1,d2,d3,p0,p1,p2,p3,rfl,rfl,rfl,h0,h1,h2,h3⟩:=trodAll_four hA;obtain⟨rfl,rfl⟩:=trodVars_none hV;obtain⟨A0,c0,l0,rfl,pD,hc0⟩:=ah0 (hval 0 22 v0 rfl rfl) h0;obtain⟨k1,rfl,rfl,rfl,wk1⟩:=open_int Tryz.underlying3 (hval 1 3 v1 rfl rfl) h1;obtain⟨k2,rfl,rfl,rfl,wk2⟩:=open_int Tryz.underlying3 (hval 2 3 v2 rfl rfl) h2;obtain⟨k3,rfl,rfl,rfl,wk3⟩:=open_int Tryz.underlying3 (hval 3 3 v3 rfl rfl) h3;clear SY U8;simp only[List.append_nil,List.nil_append] at Kr hlt;refine (agW l0 A0 c0 k1 k2 k3 W (aem hL vH) (akI vH) pD hc0).mono fun e W' ⟨he,hw⟩=>?_;subst he;have hs:∀x∈p0,W.sameAt W' x:=fun x hx=>hw.same (hlt x (by simpa using hx))
 exact⟨_,rfl,akH (pa:=p0) (pv:=[]) Kr (fun _ _ _=>trodAll_mk1 (shut_bool Tryz.underlying4 true)) (fun sp hsp=>by
   have:=trodAll_mk4 (alq h0 hs (fun p hp=>hsp p hp)) (shut_int Tryz.underlying3 wk1) (shut_int Tryz.underlying3 wk2) (shut_int Tryz.underlying3 wk3);simp only[List.append_nil,List.nil_append] at this;exact this) (fun _ _=>rfl) (by simp)
  hw (ok_one (by kernel_rfl) rfl (okWide_bool_mk Tryz.underlying4 true))⟩

theorem ah4:Rows.OpmlWithinSaid :=
 OpenClaim.holds_of_wide 3 Tryz.f3 rfl rfl rfl rfl rfl rfl rfl ⟨rfl,rfl,rfl,rfl,rfl⟩ rfl rfl rfl rfl rfl (by kernel_rfl) Tryz.func3 (by kernel_rfl)
  (of_decide_eq_true (by kernel_rfl)) (by unfold Func.isWrapper;first | (rw[if_pos (by decide +kernel)];kernel_rfl) | (rw[if_neg (by decide +kernel)];exact⟨rfl,rfl⟩))
  (fun os started H enc _=>ah3 os started H enc)
theorem opmlWithin_card:Rows.OpmlWithinCardSaid :=
 Claim7.holds_tied_plain_at .later [] [.data, .data, .data, .pinned, .pinned] true (true, "4b2227cc648626062c78881e3f11c6a6102f21ecf114d9da1aa6dbb05ad3fc64") false ah4 (fun _ h => by cases h) (by kernel_rfl) (fun _ h => by cases h) opmlWithin_row_tie rfl ⟨rfl, rfl⟩ (by kernel_rfl) rfl
  (fun f fn hf vt=>by
   obtain rfl : f = 3 := Option.some.inj ((show Tryz.prog.funcNamed "carding/cardinglaw32.OpmlWithin" = some 3 by kernel_rfl).symm.trans hf) |>.symm
   obtain rfl:fn=Tryz.f3:=(Option.some.inj (Tryz.func3.symm.trans vt)).symm
   exact⟨by kernel_rfl,fun j t ht=>by
    rw[Tryz.params3] at ht;have hm:t∈[22,3,3,3]:=by simpa using Array.mem_of_getElem? ht
    have hall:([22,3,3,3].all fun u=>!Tryz.prog.wantsStandIn u)=true:=by kernel_rfl
    have:=List.all_eq_true.1 hall t hm;have h2:Tryz.prog.wantsStandIn t=false:=by simpa using this
    exact h2⟩)
  (by kernel_rfl)
end
end Go.Proofs.YtnbmfljhbpfilaaGreatDoor
