/- For every input, the law OpmlTells returns true and leaves its arguments as they were, where the listed tables read as the program's text lays them (the card ties them): whether outlines may be, what is written of them, what they are merged to, and what a state exports is what the document says. -/
import Derived.Test.YtpdkeckeekchlaaGreatDoorCards
import Derived.Test.YtpdkeckeekchlaaGreatDoorOt43
import Derived.Test.YtpdkeckeekchlaaGreatDoorOt46
import Derived.Test.YtpdkeckeekchlaaGreatDoorOt47
import Derived.Test.YtpdkeckeekchlaaGreatDoorTie
set_option linter.unusedSimpArgs false
set_option maxRecDepth 100000
set_option linter.unusedVariables false
namespace Go.Proofs.YtpdkeckeekchlaaGreatDoor
section
open Go.ChangeShapes Go.WideShapes Go.ChangeAt Go.RowKit

theorem aix(os:Os)(started:os.Started)(H:Type)(enc:TypeId×Value→H) :
  ReturnsInHanded {} Tryz.checked os 3 .any (fun w args=>(Rows.opmlTellsSpec.pre enc Tryz.prog Tryz.f3 Rows.opmlTellsRow.domain false w args∧laidMetH Tryz.prog Rows.opmlTellsRow.laid w)∧sizedMet enc Tryz.prog Tryz.f3 (OpenSpec.ofChange Rows.opmlTellsSpec) false w args)
   (Rows.opmlTellsSpec.post enc Tryz.prog Tryz.f3 false true false false):=by
 refine aki (C:=Tryz.checked) (X:=fun w _=>laidMetH Tryz.prog Rows.opmlTellsRow.laid w) (fun _ _ _ hh h=>h.of_heap hh) aiF started (by kernel_rfl) Tryz.func3
  (ChangeSpec.witness_shaped (enc:=enc) (C:=Tryz.checked) (os:=os) (X:=fun w _=>laidMetH Tryz.prog Rows.opmlTellsRow.laid w) false (World.laidAll Tryz.prog os Rows.opmlTellsRow.laid) #[.slice none 0 0,.slice none 0 0,.agg #[.slice none 0 0]] 8 (World.laidAll_os _ _ _)
   (World.shaped_of_ZipB (by kernel_rfl) (by kernel_rfl)) (by kernel_rfl) (by kernel_rfl) (by kernel_rfl)
   (by rw[MakeChecks.laidMetH_plain _ _ _ (show (Rows.opmlTellsRow.laid.all fun x=>x.2.handleName?.isNone)=true from We)];exact laidMet_laidAll _ (by kernel_rfl) (by kernel_rfl))) ?_
 intro W base args ds gs before Vw hW hc _ hL tZ;have hval:∀(j:Nat) t v,Tryz.f3.params[j]?=some t→args[j]?=some v→Value.okWide Tryz.prog W .any base t v:=Vw;have Bc:=hW;have hlt:∀p∈before,p.block<W.heap.size:=fun p hp=>Bc.lt p hp;obtain⟨p,q,TC,hV,rfl,_,_⟩:=hW;have hA:DataW.TrodAll enc Tryz.prog W 0 (fun _=>true) true Tryz.f3.params.toList args.toList ds p:=TC;rw[Tryz.params3] at hA hval;obtain⟨v0,v1,v2,d0,d1,d2,p0,p1,p2,rfl,rfl,rfl,h0,h1,h2⟩:=trodAll_three hA;obtain⟨rfl,rfl⟩:=trodVars_none hV;obtain⟨A0,c0,l0,rfl,qc,hc0⟩:=W5 (hval 0 22 v0 rfl rfl) h0;obtain⟨A1,c1,l1,rfl,dH,cR⟩:=W5 (hval 1 22 v1 rfl rfl) h1;obtain⟨A2,c2,l2,rfl,hL2⟩:=aiu (hval 2 25 v2 rfl rfl) h2;clear TC Vw;simp only[List.append_nil,List.nil_append] at Bc hlt;refine (ahk l0 l1 A0 A1 A2 c0 c1 c2 l2 W (aeG hL tZ) (alr tZ) qc dH hL2 hc0 cR).mono fun e W' ⟨he,hw⟩=>?_;subst he;have hs:∀p∈p0++(p1++p2),W.sameAt W' p:=fun p hp=>hw.same (hlt p (by simpa using hp))
 exact⟨_,rfl,alq (pa:=p0++(p1++p2)) (pv:=[]) Bc (fun _ _ _=>trodAll_mk1 (shut_bool Tryz.underlying4 true)) (fun sp hsp=>by
   have:=trodAll_mk3 (YB h0 (fun p hp=>hs p (by simp[hp])) (fun p hp=>hsp p (by simp[hp]))) (YB h1 (fun p hp=>hs p (by simp[hp])) (fun p hp=>hsp p (by simp[hp]))) (al7 h2 (fun p hp=>hs p (by simp[hp])) (fun p hp=>hsp p (by simp[hp])));exact this) (fun _ _=>rfl) (by simp)
  hw (ok_one (by kernel_rfl) rfl (okWide_bool_mk Tryz.underlying4 true))⟩

theorem aiy:Rows.OpmlTellsSaid :=
 OpenClaim.holds_of_wide 3 Tryz.f3 rfl rfl rfl rfl rfl rfl rfl ⟨rfl,rfl,rfl,rfl,rfl⟩ rfl rfl rfl rfl rfl (by kernel_rfl) Tryz.func3 (by kernel_rfl)
  (of_decide_eq_true (by kernel_rfl)) (by unfold Func.isWrapper;first | (rw[if_pos (by decide +kernel)];kernel_rfl) | (rw[if_neg (by decide +kernel)];exact⟨rfl,rfl⟩))
  (fun os started H enc _=>aix os started H enc)
theorem opmlTells_card:Rows.OpmlTellsCardSaid :=
 Claim7.holds_tied_plain_at .later [] [.data, .data, .data, .pinned, .pinned] true (true, "24ce1288205e4d2dcb5ac6ff70db8c9827bd93197529931c97bcf6582e7c80d1") false aiy (fun _ h => by cases h) (by kernel_rfl) (fun _ h => by cases h) opmlTells_row_tie rfl ⟨rfl, rfl⟩ (by kernel_rfl) rfl
  (fun f fn hf wk=>by
   obtain rfl : f = 3 := Option.some.inj ((show Tryz.prog.funcNamed "carding/cardinglaw32.OpmlTells" = some 3 by kernel_rfl).symm.trans hf) |>.symm
   obtain rfl:fn=Tryz.f3:=(Option.some.inj (Tryz.func3.symm.trans wk)).symm
   exact⟨by kernel_rfl,fun j t ht=>by
    rw[Tryz.params3] at ht;have hm:t∈[22,22,25]:=by simpa using Array.mem_of_getElem? ht
    have hall:([22,22,25].all fun u=>!Tryz.prog.wantsStandIn u)=true:=by kernel_rfl
    have:=List.all_eq_true.1 hall t hm;have h2:Tryz.prog.wantsStandIn t=false:=by simpa using this
    exact h2⟩)
  (by kernel_rfl)
end
end Go.Proofs.YtpdkeckeekchlaaGreatDoor
