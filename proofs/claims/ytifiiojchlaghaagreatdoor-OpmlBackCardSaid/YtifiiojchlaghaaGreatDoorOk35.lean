/- opml: the law's two texts and its outline: wakes. And more. -/
import Derived.Test.YtifiiojchlaghaaGreatDoorOk01
import Derived.Test.YtifiiojchlaghaaGreatDoorOk29
import Derived.Test.YtifiiojchlaghaaGreatDoorOk31
import Derived.Test.YtifiiojchlaghaaGreatDoorOk33
import Derived.Test.YtifiiojchlaghaaGreatDoorOk34
set_option linter.unusedSimpArgs false
set_option maxRecDepth 100000
set_option maxHeartbeats 16000000
set_option linter.unusedVariables false
namespace Go.Proofs.YtifiiojchlaghaaGreatDoor
section
open Go.RowKit Tk Sx Go.WideShapes

namespace Opm
def rdOk(r:Except Nat (List Dcl))(l:List (L×L)):Bool:=match r with
 | .ok x=>decide (x.map (fun d=>(d.pre,d.ns))=l)
 | .error _=>false
def rdErr(r:Except Nat (List Dcl))(n:Nat):Bool:=match r with
 | .ok _=>false
 | .error m=>decide (m=n)
theorem rd1:readE evs1=.ok [⟨[117],[98]⟩]:=by
 have h:rdOk (readE evs1) [([117],[98])]=true:=by kernel_rfl
 unfold rdOk at h
 split at h
 ·rename_i x hx
  have h:=of_decide_eq_true h;rw[hx]
  match x,h with
  | [⟨a,b⟩],h=>simp at h;obtain⟨rfl,rfl⟩:=h;rfl
 cases h
theorem rd2:readE evs2=.error 43:=by
 have h:rdErr (readE evs2) 43=true:=by kernel_rfl
 unfold rdErr at h
 split at h
 ·cases h
 rename_i m hm
 rw[hm,of_decide_eq_true h]
theorem may1:may [⟨[117],[60]⟩]=true:=by kernel_rfl
def t3:L:=[60,111,112,109,108,32,118,101,114,115,105,111,110,61,34,50,46,48,34,62,60,104,101,97,100,47,62,60,98,111,100,121,62,60,111,117,116,108,105,110,101,32,116,101,120,116,61,34,38,108,116,59,34,32,120,109,108,85,114,108,61,34,117,34,47,62,60,47,98,111,100,121,62,60,47,111,112,109,108,62]
theorem text1:text [⟨[117],[60]⟩]=t3:=of_decide_eq_true (by kernel_rfl)
theorem few1:∀e∈evs1,e.attrs.length≤1000000∧∀a∈e.attrs,SmallN a.name∧a.val.length≤100000:=by
 intro e he;simp only[evs1,List.mem_cons,List.not_mem_nil,or_false] at he
 rcases he with rfl|rfl|rfl|rfl|rfl|rfl|rfl|rfl<;>refine⟨by simp,fun a ha=>?_⟩<;>simp at ha
 ·subst ha;exact⟨⟨by decide,by decide⟩,by decide⟩
 rcases ha with rfl|rfl<;>exact⟨⟨by decide,by decide⟩,by decide⟩
theorem few2:∀e∈evs2,e.attrs.length≤1000000∧∀a∈e.attrs,SmallN a.name∧a.val.length≤100000:=by
 intro e he;simp only[evs2,List.mem_cons,List.not_mem_nil,or_false] at he
 rcases he with rfl|rfl<;>exact⟨by simp,fun a ha=>by cases ha⟩
end Opm
theorem wakes32_any(w:World)(hg:Gl w)(hw6:6≤w.heap.size):Calls Tryz.prog 6 #[] w fun e w'=>e=.returned (.bool true)∧Below w.heap.size w w':=by
 have H1:=hide (Read_any Opm.t1 Opm.evs1 w hg hw6 (by decide) (by decide) Opm.parse1 Opm.fine1 Opm.smlT1 Opm.smlS1 Opm.whl1 Opm.few1 (by decide));have H2:=hide (fun W (hb:Below w.heap.size w W)=>Read_any Opm.t2 Opm.evs2 W (hg.below hb) (Nat.le_trans hw6 hb.size) (by decide) (by decide) Opm.parse2 Opm.fine2 Opm.smlT2 Opm.smlS2 Opm.whl2 Opm.few2 (by decide));rw[Opm.rd1] at H1;simp only[Opm.rd2] at H2;clear hg hw6
 go_enter Tryz.func6,Tryz.ntmps6
 go_wp2_with fail
 refine H1.out.mono ?_;rintro e w1 ⟨hb1,A,c,rfl,hc,hr⟩;obtain⟨b,off,rfl,hbB,x0,x1⟩:=hr.dcl (k:=0) (by simp);simp only[List.getElem_cons_zero] at x0 x1;have HB1:=hide hb1;have hb1s:=hb1.size;have HX:=hide (show w1.cell? ⟨b,off+0*2,none⟩=_∧w1.cell? ⟨b,off+0*2+1,none⟩=_ from⟨x0,x1⟩);clear hb1 hr x0 x1 hc H1;dsimp only
 go_wp2_with fail
 refine (H2.out w1 HB1.out).mono ?_;rintro e w2 ⟨hb2,rfl⟩;have HB2:=hide (HB1.out.trans (hb2.mono HB1.out.size));have HB12:=hide hb2;have hb2s:=hb2.size;clear hb2 H2;dsimp only;have hR3:=Blk.new w2 35 #[.string (bstr [117]),.string (bstr [60])]
 have H3:=hide ((OWrite_any [⟨[117],[60]⟩] (some ⟨w2.heap.size,0,none⟩) 1 (w2.alloc (.cells #[.string (bstr [117]),.string (bstr [60])] 35)) ⟨rfl,fun _=>⟨w2.heap.size,0,rfl,by simp,fun j u hu=>by
  rw[Nat.zero_add,hR3.cell j]
  simpa[dcls,dclCells] using hu⟩⟩ (by simp) (by simp)))
 rw[Opm.may1,if_pos rfl,Opm.text1] at H3;have hb3:=below_alloc w2 (.cells #[.string (bstr [117]),.string (bstr [60])] 35);have HB3:=hide hb3;clear hR3 hb3
 go_wp2_with fail
 refine H3.out.mono ?_;rintro e w4 ⟨rfl,hb4⟩;have HB4:=hide ((HB12.out.trans ((HB3.out.trans (hb4.mono HB3.out.size)).mono hb2s)));have HBw:=hide (HB1.out.trans (HB4.out.mono hb1s));have x0:=(HB4.out.cell (p:=⟨b,off+0*2,none⟩) hbB).trans HX.out.1;have x1:=(HB4.out.cell (p:=⟨b,off+0*2+1,none⟩) hbB).trans HX.out.2;clear hb4 H3 HX;rw[Nat.zero_mul,Nat.add_zero] at x0 x1;have e1:(bstr [117]).toList=[117]:=by rw[ByteArray.toList_eq,bstr_list]
 have e2:(bstr [98]).toList=[98]:=by rw[ByteArray.toList_eq,bstr_list]
 have e3:(bstr Opm.t3).toList=[60,111,112,109,108,32,118,101,114,115,105,111,110,61,34,50,46,48,34,62,60,104,101,97,100,47,62,60,98,111,100,121,62,60,111,117,116,108,105,110,101,32,116,101,120,116,61,34,38,108,116,59,34,32,120,109,108,85,114,108,61,34,117,34,47,62,60,47,98,111,100,121,62,60,47,111,112,109,108,62]:=by rw[ByteArray.toList_eq,bstr_list];rfl
 dsimp only;go_wp2;go_ret;exact⟨rfl,HBw.out⟩
end
section
open Go.RowKit Tk Sx Go.WideShapes

namespace Opm
def fat(x:Dcl):Bool:=decide (300<x.pre.length)||decide (300<x.ns.length)
def great(l:List Dcl):Bool:=(l.take 71).any fat||decide (70<l.length)
theorem great_no{l:List Dcl}(h:great l=false):l.length≤70∧∀x∈l,x.pre.length≤300∧x.ns.length≤300:=by
 unfold great at h;simp only[Bool.or_eq_false_iff,decide_eq_false_iff_not,List.any_eq_false] at h;have hl:l.length≤70:=by omega
 refine⟨hl,fun x hx=>?_⟩;have h1:=h.1 x (by rw[List.take_of_length_le (by omega)];exact hx);unfold fat at h1;simp only[Bool.or_eq_true,decide_eq_true_eq,not_or] at h1;omega
end Opm
theorem Great32_any(l:List Dcl)(A:Option Addr)(c B:Nat)(w:World)(hR:Reads w B 2 A l.length (dcls l))(hm:l.length≤maxLen) :
  Calls Tryz.prog 5 #[.slice A l.length c] w fun e w'=>e=.returned (.bool (Opm.great l))∧w'=w:=by
 obtain⟨n,hn⟩:∃n,l.length=n:=⟨_,rfl⟩;have HR:=hide hR;have Hn:=hide hn;have Hg:=hide (show Opm.great l=((l.take 71).any Opm.fat||decide (70<n)) by unfold Opm.great;rw[hn]);rw[hn] at hm ⊢;clear hR hn;have hm2:(n:Int)≤9223372036854775807:=by unfold maxLen at hm;omega
 go_enter Tryz.func5,Tryz.ntmps5
 go_wp2
 go_loopg [2,3,4,5,6,7,8,9,10,11,12,13,14,15,16,17,18,19,20,21,22,23,24,25,26,27,28,29] n (fun gk v2 v3 v4 v5 v6 v7 v8 v9 v10 v11 v12 v13 v14 v15 v16 v17 v18 v19 v20 v21 v22 v23 v24 v25 v26 v27 v28 v29 wr=>∃j:Nat,v3=.int .i64 (j:Int)∧gk=n-j∧j≤n∧j≤71∧(l.take j).any Opm.fat=false∧wr=w)
 case atStart=>exact⟨0,rfl,rfl,by omega,by omega,rfl,rfl⟩
 case round=>
  obtain⟨j,rfl,hgk,hj,hj71,hfat,rfl⟩:=hrel;have Hgk:=hide hgk;have Hfat:=hide hfat;clear hgk hfat
  by_cases hlt:j<n
  ·have hlt2:decide ((j:Int)<(n:Int))=true:=decide_eq_true (by omega)
   by_cases h70:j≤70
   ·have h702:decide ((j:Int)≤70)=true:=decide_eq_true (by omega);have hjl:j<l.length:=by rw[Hn.out];exact hlt
    obtain⟨b,off,rfl,hbB,x0,x1⟩:=HR.out.dcl hjl
    have hst:(l.take (j+1)).any Opm.fat=((l.take j).any Opm.fat||Opm.fat l[j]):=by
     rw[List.take_add_one,List.getElem?_eq_getElem hjl,List.any_append];simp
    rw[Hfat.out,Bool.false_or] at hst
    have hgt:Opm.fat l[j]=true→Opm.great l=true:=fun h=>by
     rw[Hg.out];have:(l.take 71).any Opm.fat=true:=List.any_eq_true.2 ⟨l[j],List.mem_take_iff_getElem.2 ⟨j,by omega,rfl⟩,h⟩;rw[this];rfl
    obtain⟨⟨u,t⟩,hx⟩:∃x,l[j]=x:=⟨_,rfl⟩;rw[hx] at hst hgt x0 x1;unfold Opm.fat at hst hgt;dsimp only at x0 x1 hst hgt;have hjj:(0:Int)≤j∧(j:Int)<n:=by omega
    have z0:=bstr_size u;have z1:=bstr_size t;have Hst:=hide hst;have Hgt:=hide hgt;clear hst hgt hx
    by_cases hu:300<u.length
    ·have hu2:decide ((300:Int)<(u.length:Int))=true:=decide_eq_true (by omega);have HF:=hide (Hgt.out (by rw[decide_eq_true hu];rfl));clear Hst Hgt hu;go_wp2;go_ret;rw[HF.out];exact⟨rfl,rfl⟩
    have hu2:decide ((300:Int)<(u.length:Int))=false:=decide_eq_false (by omega);rw[decide_eq_false hu,Bool.false_or] at Hst Hgt;clear hu
    by_cases ht:300<t.length
    ·have ht2:decide ((300:Int)<(t.length:Int))=true:=decide_eq_true (by omega);have HF:=hide (Hgt.out (decide_eq_true ht));clear Hst Hgt ht;go_wp2;go_ret;rw[HF.out];exact⟨rfl,rfl⟩
    have ht2:decide ((300:Int)<(t.length:Int))=false:=decide_eq_false (by omega);rw[decide_eq_false ht] at Hst;clear Hgt ht;go_wp2
    go_roundg (n-(j+1))
    case measure=>have:=Hgk.out;omega
    case rel=>exact⟨j+1,by first|rfl|go_num,rfl,by omega,by omega,Hst.out,rfl⟩
   have h702:decide ((j:Int)≤70)=false:=decide_eq_false (by omega);have HF:=hide (show Opm.great l=true by rw[Hg.out,decide_eq_true (show 70<n by omega)];simp);have hn70:decide ((70:Int)<(n:Int))=true:=decide_eq_true (by omega);have hi1:(j:Int)<n:=by omega
   have hi2:¬(j:Int)≤70:=by omega
   have hi3:(70:Int)<n:=by omega
   go_wp2;go_ret;rw[HF.out];exact⟨rfl,rfl⟩
  have hi1:¬(j:Int)<n:=by omega
  have hje:j=n:=by omega
  have hF:Opm.great l=decide (70<n):=by
   rw[Hg.out]
   have:(l.take 71).any Opm.fat=false:=by
    have h:=Hfat.out;rwa[hje,←Hn.out,List.take_length,←List.take_of_length_le (l:=l) (i:=71) (by rw[Hn.out];omega)] at h
   rw[this,Bool.false_or]
  by_cases h7:70<n
  ·have hi2:(70:Int)<n:=by omega
   rw[decide_eq_true h7] at hF;have HF:=hide hF;clear hje hF;go_wp2;go_ret;rw[HF.out];exact⟨rfl,rfl⟩
  have hi2:¬(70:Int)<n:=by omega
  rw[decide_eq_false h7] at hF;have HF:=hide hF;clear hje hF;go_wp2;go_ret;rw[HF.out];exact⟨rfl,rfl⟩
instance:DecidableEq Dcl:=fun x y=>decidable_of_iff (x.pre=y.pre∧x.ns=y.ns) (by cases x;cases y;simp)
theorem drewN2(w:World)(k n:Nat):∃m,(w.drewN k).drewN n=w.drewN m:=⟨k+n,by simp[World.drewN,Nat.add_assoc]⟩
theorem bstr_neL{a b:L}(h:a≠b):¬(bstr a).toList=(bstr b).toList:=fun e=>h ((bstr_eqI a b).1 e)
theorem Same32_any(la lb:List Dcl)(A B:Option Addr)(ca cb Na Nb:Nat)(w:World)(hA:Reads w Na 2 A la.length (dcls la))(hB:Reads w Nb 2 B lb.length (dcls lb))(hl:la.length≤1000000000) :
  Calls Tryz.prog 10 #[.slice A la.length ca,.slice B lb.length cb] w fun e w'=>e=.returned (.bool (decide (la=lb)))∧∃k,w'=w.drewN k:=by
 obtain⟨n,hn⟩:∃n,la.length=n:=⟨_,rfl⟩;obtain⟨m,hm⟩:∃n,lb.length=n:=⟨_,rfl⟩;have HA:=hide hA;have HB:=hide hB;have Hn:=hide hn;have Hm:=hide hm;rw[hn] at hl;rw[hn,hm];clear hA hB hn hm
 by_cases hnm:n=m
 ·subst hnm
  go_enter Tryz.func10,Tryz.ntmps10
  go_wp2
  go_loopg [4,5,11,12,13,14,15,16,17,18,19,20,21,22,23,24,25] n (fun gk v4 v5 v11 v12 v13 v14 v15 v16 v17 v18 v19 v20 v21 v22 v23 v24 v25 wr=>∃j:Nat,v5=.int .i64 (j:Int)∧gk=n-j∧j≤n∧la.take j=lb.take j∧∃k,wr=w.drewN k)
  case atStart=>exact⟨0,rfl,rfl,by omega,rfl,0,rfl⟩
  case round=>
   obtain⟨j,rfl,hgk,hj,htk,k,rfl⟩:=hrel;have Hgk:=hide hgk;have Htk:=hide htk;clear hgk htk
   by_cases hlt:j<n
   ·have hi1:(j:Int)<n:=by omega
    have hja:j<la.length:=by rw[Hn.out];exact hlt
    have hjb:j<lb.length:=by rw[Hm.out];exact hlt
    obtain⟨b,off,rfl,hbB,x0,x1⟩:=HA.out.dcl hja;obtain⟨b',off',rfl,hbB',y0,y1⟩:=HB.out.dcl hjb;have hjj:(0:Int)≤j∧(j:Int)<n:=by omega
    have ha1:la.take (j+1)=la.take j++[la[j]]:=by rw[List.take_add_one,List.getElem?_eq_getElem hja];rfl
    have hb1:lb.take (j+1)=lb.take j++[lb[j]]:=by rw[List.take_add_one,List.getElem?_eq_getElem hjb];rfl
    have hne:la[j]≠lb[j]→decide (la=lb)=false:=fun h=>decide_eq_false fun e=>h (by subst e;rfl);obtain⟨⟨u,t⟩,hx⟩:∃x,la[j]=x:=⟨_,rfl⟩;obtain⟨⟨u',t'⟩,hy⟩:∃x,lb[j]=x:=⟨_,rfl⟩;rw[hx] at x0 x1 ha1 hne;rw[hy] at y0 y1 hb1 hne;dsimp only at x0 x1 y0 y1
    by_cases hu:u=u'
    ·subst hu
     by_cases ht:t=t'
     ·subst ht;have HT:=hide (show la.take (j+1)=lb.take (j+1) by rw[ha1,hb1,Htk.out]);clear hx hy ha1 hb1 hne;go_wp2
      go_quiet (fail)
      go_wp2
      go_roundg (n-(j+1))
      case measure=>have:=Hgk.out;omega
      case rel=>exact⟨j+1,by first|rfl|go_num,rfl,by omega,HT.out,_,rfl⟩
     have HF:=hide (hne (fun e=>ht (Dcl.mk.inj e).2));have h1:=bstr_neL ht;clear hx hy ha1 hb1 hne ht;go_wp2
     go_quiet (fail)
     go_wp2;go_ret;rw[HF.out];exact⟨rfl,drewN2 _ _ _⟩
    have HF:=hide (hne (fun e=>hu (Dcl.mk.inj e).1));have h1:=bstr_neL hu;clear hx hy ha1 hb1 hne hu;go_wp2
    go_quiet (fail)
    go_wp2;go_ret;rw[HF.out];exact⟨rfl,drewN2 _ _ _⟩
   have hi1:¬(j:Int)<n:=by omega
   have hje:j=n:=by omega
   have HF:=hide (show decide (la=lb)=true from decide_eq_true (by
    have h:=Htk.out;rwa[hje,List.take_of_length_le (by rw[Hn.out];exact Nat.le_refl _),List.take_of_length_le (by rw[Hm.out];exact Nat.le_refl _)] at h))
   clear hje;go_wp2;go_ret;rw[HF.out];exact⟨rfl,_,rfl⟩
 have hi1:¬(n:Int)=m:=by omega
 have HF:=hide (show decide (la=lb)=false from decide_eq_false fun e=>hnm (by rw[←Hn.out,←Hm.out,e]));clear hnm
 go_enter Tryz.func10,Tryz.ntmps10
 go_wp2;go_ret;rw[HF.out];exact⟨rfl,0,rfl⟩
end
section
open Go.RowKit Tk Sx Go.WideShapes

theorem well_yes(s:L)(evs:List Ev)(w:World)(hg:Gl w)(hw6:6≤w.heap.size)(hs:s.length≤300000)(hp:Sx.parse s=.ok evs)(hfi:fine s=true)(hsT:SmlT s)(hsS:SmlS s) :
  Calls Tryz.prog 11 #[.string (bstr s)] w fun e w'=>e=.returned (.bool true)∧Below w.heap.size w w':=by
 have HPa:=hide (parse_any (bstr s) w hg hw6 (by rw[bstr_size];omega) (by rw[bstr_list];exact hfi) (by rw[bstr_list];exact hsT) (by rw[bstr_list];exact hsS));rw[bstr_list,hp] at HPa;clear hp hfi hsT hsS hg
 go_enter Tryz.func11,Tryz.ntmps11
 go_wp2_with fail
 refine HPa.out.mono ?_;rintro e w1 ⟨b1,xs,A,c,-,rfl,-,-,-,-,-⟩;go_wp2;go_ret;exact⟨rfl,b1⟩
theorem lawBack_any(l:List Dcl)(A:Option Addr)(c:Nat)(w:World)(hg:Gl w)(hw6:6≤w.heap.size)(hR:Reads w w.heap.size 2 A l.length (dcls l))(hc:l.length≤c∧c≤maxLen) :
  Calls Tryz.prog 3 #[.slice A l.length c] w fun e w'=>e=.returned (.bool true)∧Below w.heap.size w w':=by
 have HWk:=hide (fun W (hb:Below w.heap.size w W)=>wakes32_any W (hg.below hb) (Nat.le_trans hw6 hb.size));have HG:=hide (Great32_any l A c w.heap.size w hR (Nat.le_trans hc.1 hc.2))
 cases hgr:Opm.great l with
 | true=>
  rw[hgr] at HG;clear hg hw6 hR hc hgr
  go_enter Tryz.func3,Tryz.ntmps3
  go_wp2_with fail
  refine cq HG.out ?_
  go_wp2_with fail
  refine (HWk.out _ (Below.refl _ _)).mono ?_;rintro e w2 ⟨rfl,b2⟩;go_wp2;go_ret;exact⟨rfl,b2⟩
 | false=>
  rw[hgr] at HG;obtain⟨hl,hu⟩:=Opm.great_no hgr;have hu2:∀x∈l,x.pre.length≤100000∧x.ns.length≤100000:=fun y hy=>by have:=hu y hy;omega
  have HMy:=hide (fun W (hb:Below w.heap.size w W)=>OMay_any l A c W ((hR.below hb).more hb.size) hu2 (by omega));have HWr:=hide (OWrite_any l A c w hR hu2 (by omega))
  cases hmy:Opm.may l with
  | false=>
   simp only[hmy] at HMy HWr;rw[if_neg (by simp)] at HWr;clear hg hw6 hR hc hgr hl hu hu2 hmy;generalize l.length=n at *
   go_enter Tryz.func3,Tryz.ntmps3
   go_wp2_with fail
   refine cq HG.out ?_
   go_wp2_with fail
   refine HWr.out.mono ?_;rintro e w2 ⟨rfl,b2⟩;have B2:=hide b2;clear b2
   go_wp2_with fail
   refine (HMy.out _ B2.out).mono ?_;rintro e w3 ⟨rfl,b3⟩;have B3:=hide (B2.out.trans (b3.mono B2.out.size));clear b3
   go_wp2_with fail
   refine (HWk.out _ B3.out).mono ?_;rintro e w4 ⟨rfl,b4⟩;have B4:=hide (B3.out.trans (b4.mono B3.out.size));clear b4;go_wp2;go_ret;exact⟨rfl,B4.out⟩
  | true=>
   simp only[hmy,if_true] at HMy HWr;have hm:=hmy;unfold Opm.may at hm;simp only[Bool.and_eq_true] at hm;obtain⟨hp,hfi,hsT,hsS⟩:=Opm.text_read (Opm.mayOn_fine hm.1) hu hl;have hln:=Opm.text_len hu;have hel:=Opm.evs_len l;have HRd:=hide (fun W (hb:Below w.heap.size w W)=>Read_any (Opm.text l) (Opm.evsOf l) W (hg.below hb) (Nat.le_trans hw6 hb.size) (by omega) (Opm.cr_text l) hp hfi hsT hsS (Opm.whl_of l) (Opm.few_of hu) (by omega));simp only[Opm.read_of hmy] at HRd;have HWl:=hide (fun W (hb:Below w.heap.size w W)=>well_yes (Opm.text l) (Opm.evsOf l) W (hg.below hb) (Nat.le_trans hw6 hb.size) (by omega) hp hfi hsT hsS);have HSa:=hide (fun W (hb:Below w.heap.size w W) B cb (hB:Reads W W.heap.size 2 B l.length (dcls l))=>Same32_any l l A B c cb _ _ W (hR.below hb) hB (by omega));simp only[decide_true] at HSa;obtain⟨T,hT⟩:∃T,bstr (Opm.text l)=T:=⟨_,rfl⟩;rw[hT] at HWr;simp only[hT] at HRd HWl;clear hg hw6 hR hc hgr hu hu2 hmy hm hp hfi hsT hsS hln hel hT
   go_enter Tryz.func3,Tryz.ntmps3
   go_wp2_with fail
   refine cq HG.out ?_
   go_wp2_with fail
   refine HWr.out.mono ?_;rintro e w2 ⟨rfl,b2⟩;have B2:=hide b2;clear b2
   go_wp2_with fail
   refine (HRd.out _ B2.out).mono ?_;rintro e w3 ⟨b3,B,cb,rfl,hcb,hB⟩;have B3:=hide (B2.out.trans (b3.mono B2.out.size));have RB:=hide hB;clear b3 hcb hB
   go_wp2_with fail
   refine (HSa.out _ B3.out B cb RB.out).mono ?_;rintro e w4 ⟨rfl,k,rfl⟩;have B4:=hide (below_drewN B3.out k)
   go_wp2_with fail
   refine (HWl.out _ B4.out).mono ?_;rintro e w5 ⟨rfl,b5⟩;have B5:=hide (B4.out.trans (b5.mono B4.out.size));clear b5
   go_wp2_with fail
   refine (HMy.out _ B5.out).mono ?_;rintro e w6 ⟨rfl,b6⟩;have B6:=hide (B5.out.trans (b6.mono B5.out.size));clear b6
   go_wp2_with fail
   refine (HWk.out _ B6.out).mono ?_;rintro e w7 ⟨rfl,b7⟩;have B7:=hide (B6.out.trans (b7.mono B6.out.size));clear b7;go_wp2;go_ret;exact⟨rfl,B7.out⟩
end
end Go.Proofs.YtifiiojchlaghaaGreatDoor
