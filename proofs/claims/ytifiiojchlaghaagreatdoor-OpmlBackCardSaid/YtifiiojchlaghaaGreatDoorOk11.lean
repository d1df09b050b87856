/- Strict: a value as written: the program's Value. And more. -/
import Derived.Test.YtifiiojchlaghaaGreatDoorOk09
import Derived.Test.YtifiiojchlaghaaGreatDoorOk10
set_option linter.unusedSimpArgs false
set_option maxHeartbeats 16000000
set_option linter.unusedVariables false
namespace Go.Proofs.YtifiiojchlaghaaGreatDoor
section
open Go.RowKit Tk Sx

theorem less_is:∀l:L,Lib.indexByte l 60=match less l with|some k=>(k:Int) | none=>-1
 | []=>rfl
 | c :: r=>by
  have ih:=less_is r;unfold less Lib.indexByte
  by_cases h:c=60
  ·rw[if_pos h];simp[h]
  rw[if_neg h,ih]
  cases less r with
  | none=>simp[h]
  | some k=>simp[h]
theorem less_le:∀{l:L} {k:Nat},less l=some k→k<l.length
 | [],k,h=>by cases h
 | c :: r,k,h=>by
  unfold less at h
  by_cases h1:c=60
  ·rw[if_pos h1] at h;cases h;simp
  rw[if_neg h1] at h
  cases he:less r with
  | none=>rw[he] at h;cases h
  | some m=>
   rw[he] at h;simp only[Option.map_some,Option.some.injEq] at h;have:=less_le he;simp only[List.length_cons];omega
structure ByAt(W:World)(g:Nat)(l:L):Prop where
 c:∀(k:Nat) (c:UInt8),l[k]?=some c→W.cell? ⟨g,k,none⟩=some (.int .u8 (c.toNat:Nat))
 f:∀k,k<l.length→W.frozen? ⟨g,k,none⟩=false
theorem ByAt.set{W:World}{g:Nat}{l:L}(h:ByAt W g l){k:Nat}(hk:k<l.length)(d:UInt8):ByAt (W.setCell ⟨g,k,none⟩ (.int .u8 (d.toNat:Nat))) g (l.set k d):=by
 refine⟨fun j c hj=>?_,fun j hj=>?_⟩
 ·by_cases he:j=k
  ·subst he;rw[List.getElem?_set_self hk] at hj;cases hj;exact World.cell?_setCell_same _ _ _ (h.c j _ (List.getElem?_eq_getElem hk))
  rw[List.getElem?_set_ne (fun e=>he e.symm)] at hj;rw[World.cell?_setCell_other _ _ _ _ (by intro e;injection e with _ e;exact he e.symm)];exact h.c j c hj
 rw[World.frozen?_setCell];exact h.f j (by simpa using hj)
theorem bytes_mine(l:L)(w:World):∃W g cap,(Go.convert 9 37 (.string (bstr l))).run Tryz.prog w=.ok (.slice (some ⟨g,0,none⟩) (bstr l).size cap) W∧Below w.heap.size w W∧w.heap.size≤g∧g<W.heap.size∧ByAt W g l:=by
 refine⟨_,_,_,run_bytes_of_string (P:=Tryz.prog) w 9 37 5 (bstr l) Tryz.underlying9 Tryz.underlying37 Tryz.underlying5,?_,Nat.le_refl _,?_,?_,?_⟩
 ·exact (Below.refl _ w).drew.alloc (by simp) _
 ·simp
 ·intro k c hc;obtain⟨h1,h2⟩:=List.getElem?_eq_some_iff.1 hc;have hk:k<(bstr l).data.size:=by simpa[bstr] using h1
  have:=bytesRow_at (bstr l) (grownCap w (bstr l).size 0 5) k hk;have e:w.heap.size=w.drew.heap.size:=rfl;rw[e,World.cell?_alloc_mark,this];have h3:(bstr l).data[k]=c:=by simpa[bstr] using h2
  rw[h3]
 intro k hk
 have hs:(bytesRow (bstr l) (grownCap w (bstr l).size 0 5)).size=(bstr l).size+(grownCap w (bstr l).size 0 5-(bstr l).size):=by
  unfold bytesRow;rw[Array.size_append,Array.size_map,Array.size_replicate];rfl
 have e:(w.drew.alloc (.cells (bytesRow (bstr l) (grownCap w (bstr l).size 0 5)) 5 ((bytesRow (bstr l) (grownCap w (bstr l).size 0 5)).size,(bytesRow (bstr l) (grownCap w (bstr l).size 0 5)).size+1))).heap[w.heap.size]?=some (.cells (bytesRow (bstr l) (grownCap w (bstr l).size 0 5)) 5 ((bytesRow (bstr l) (grownCap w (bstr l).size 0 5)).size,(bytesRow (bstr l) (grownCap w (bstr l).size 0 5)).size+1)):=heap_alloc_new w.drew _;have hl:=bstr_size l;unfold World.frozen?;rw[e];simp;omega
def normTo(k:Nat)(l:L):L:=(l.take k).map norm++l.drop k
theorem normTo_len(k:Nat)(l:L):(normTo k l).length=l.length:=by unfold normTo;simp only[List.length_append,List.length_map,List.length_take,List.length_drop];omega
theorem normTo_at{k:Nat}{l:L}{c:UInt8}(h:l[k]?=some c):(normTo k l)[k]?=some c:=by
 obtain⟨h1,h2⟩:=List.getElem?_eq_some_iff.1 h;unfold normTo;rw[List.getElem?_append_right (by simp;omega)];simp;rw[Nat.min_eq_left (by omega),Nat.sub_self,Nat.add_zero];exact h
theorem normTo_next{k:Nat}{l:L}{c:UInt8}(h:l[k]?=some c):normTo (k+1) l=(normTo k l).set k (norm c):=by
 obtain⟨h1,h2⟩:=List.getElem?_eq_some_iff.1 h;have hl:((l.take k).map norm).length=k:=by simp;omega
 unfold normTo;rw[List.take_succ_eq_append_getElem h1,h2,List.map_append,List.set_append_right _ _ (by omega),hl,Nat.sub_self,List.drop_eq_getElem_cons h1];simp[List.set]
theorem normTo_same{k:Nat}{l:L}{c:UInt8}(h:l[k]?=some c)(hc:norm c=c):normTo (k+1) l=normTo k l:=by
 rw[normTo_next h,hc];refine List.ext_getElem? fun j=>?_
 by_cases he:k=j
 ·subst he;rw[List.getElem?_set_self (by rw[normTo_len];exact (List.getElem?_eq_some_iff.1 h).1),normTo_at h]
 rw[List.getElem?_set_ne he]
theorem value15_any(l:L)(w:World)(hl:l.length≤100000) :
  Calls Tryz.prog 89 #[.string (bstr l)] w fun e w'=>e=.returned (strV (value l))∧Below w.heap.size w w':=by
 have HX:=hide (show ∀W,Calls Tryz.prog 39 #[.string (bstr l),.int .u8 60] W fun e w'=>e=.returned (.int .i64 (match less l with|some k=>(k:Int) | none=>-1))∧w'=W from fun W=>by
  have h:=Tryz.strings_IndexByte (bstr l) 60 W;rw[bstr_list] at h;rw[←less_is];exact h)
 obtain⟨z,hz⟩:∃z,value l=z:=⟨_,rfl⟩;rw[hz];unfold value at hz
 cases hk:less l with
 | none=>
  rw[hk] at HX hz;dsimp only at HX hz;have Hz:=hide hz;clear hz hk;obtain⟨W,g,cap,hconv,hb,hg,hgl,hby⟩:=bytes_mine l w;have Hs:=hide (bstr_size l);have HBy:=hide (show ByAt W g (normTo 0 l) from hby);have HB:=hide hb;have HG:=hide hg;clear hby hb hg
  go_enter Tryz.func89,Tryz.ntmps89
  go_wp2_with fail
  refine cq (HX.out _) ?_;go_wp2;clear hconv
  go_loopg [23] (bstr l).size (fun gk v wr=>∃k:Nat,gk=(bstr l).size-k∧k≤(bstr l).size∧v=.int .i64 (k:Int)∧ByAt wr g (normTo k l)∧g<wr.heap.size∧Below w.heap.size w wr)
  case atStart=>exact⟨0,rfl,by omega,rfl,HBy.out,hgl,HB.out⟩
  case round=>
   obtain⟨k,hgk,hk,rfl,hby,hgl,hb⟩:=hrel;have Hg:=hide hgk;have Hby:=hide hby
   have Hgl:=hide hgl;have HB1:=hide hb;clear hgk hby hgl hb HBy HB
   by_cases hlt:k<(bstr l).size
   ·obtain⟨c,hc⟩:∃c,(l)[k]?=some c:=⟨_,List.getElem?_eq_getElem (by rw[←Hs.out];exact hlt)⟩;have hcell:=Hby.out.c k c (normTo_at hc);have hfr:=Hby.out.f k (by rw[normTo_len,←Hs.out];exact hlt);have hk0:(0:Int)≤(k:Int):=by omega
    have hwk:IntKind.i64.wrap ((k:Int)+1)=(k:Int)+1:=IntWalk.i64_in _ (by have:=Hs.out;omega)
    have key:∀d:UInt8,((c.toNat:Int)==(d.toNat:Int))=(c==d):=fun d=>by
     rw[Bool.eq_iff_iff,beq_iff_eq,beq_iff_eq];exact⟨fun h=>UInt8.toNat_inj.1 (by omega),fun h=>by rw[h]⟩
    have e2:((c.toNat:Int)==9)=(c==9):=key 9;have e3:((c.toNat:Int)==10)=(c==10):=key 10;have e4:((c.toNat:Int)==13)=(c==13):=key 13;clear key
    by_cases hw:c=9∨c=10∨c=13
    ·have Hn:=hide (show ByAt (wr.setCell ⟨g,k,none⟩ (.int .u8 32)) g (normTo (k+1) l) by
      have h:=Hby.out.set (k:=k) (by rw[normTo_len,←Hs.out];exact hlt) 32;rw[normTo_next hc,show norm c=32 by unfold norm;rw[if_pos hw]];exact h)
     have HB2:=hide (HB1.out.setCell (p:=⟨g,k,none⟩) HG.out (.int .u8 32));have Hgl2:=hide (show g<(wr.setCell ⟨g,k,none⟩ (.int .u8 32)).heap.size by simpa[World.setCell] using Hgl.out);clear hc
     rcases hw with hw|hw|hw
     ·rw[hw] at e2 e3 e4 hcell;clear hw;have e2':(((9:UInt8))==9)=true:=by decide
      have e3':(((9:UInt8))==10)=false:=by decide
      have e4':(((9:UInt8))==13)=false:=by decide
      rw[e2'] at e2;rw[e3'] at e3;rw[e4'] at e4;clear e2' e3' e4';generalize (9:UInt8).toNat=q at *
      go_wp2
      go_roundg ((bstr l).size-(k+1))
      case measure=>have:=Hg.out;omega
      case rel=>exact⟨k+1,rfl,by omega,by first|rfl|go_num,Hn.out,Hgl2.out,HB2.out⟩
     ·rw[hw] at e2 e3 e4 hcell;clear hw;have e2':(((10:UInt8))==9)=false:=by decide
      have e3':(((10:UInt8))==10)=true:=by decide
      have e4':(((10:UInt8))==13)=false:=by decide
      rw[e2'] at e2;rw[e3'] at e3;rw[e4'] at e4;clear e2' e3' e4';generalize (10:UInt8).toNat=q at *
      go_wp2
      go_roundg ((bstr l).size-(k+1))
      case measure=>have:=Hg.out;omega
      case rel=>exact⟨k+1,rfl,by omega,by first|rfl|go_num,Hn.out,Hgl2.out,HB2.out⟩
     rw[hw] at e2 e3 e4 hcell;clear hw;have e2':(((13:UInt8))==9)=false:=by decide
     have e3':(((13:UInt8))==10)=false:=by decide
     have e4':(((13:UInt8))==13)=true:=by decide
     rw[e2'] at e2;rw[e3'] at e3;rw[e4'] at e4;clear e2' e3' e4';generalize (13:UInt8).toNat=q at *
     go_wp2
     go_roundg ((bstr l).size-(k+1))
     case measure=>have:=Hg.out;omega
     case rel=>exact⟨k+1,rfl,by omega,by first|rfl|go_num,Hn.out,Hgl2.out,HB2.out⟩
    have Hn:=hide (show ByAt wr g (normTo (k+1) l) by rw[normTo_same hc (by unfold norm;rw[if_neg hw])];exact Hby.out);have e2':(c==9)=false:=by rw[beq_eq_false_iff_ne];exact fun e=>hw (.inl e)
    have e3':(c==10)=false:=by rw[beq_eq_false_iff_ne];exact fun e=>hw (.inr (.inl e))
    have e4':(c==13)=false:=by rw[beq_eq_false_iff_ne];exact fun e=>hw (.inr (.inr e))
    rw[e2'] at e2;rw[e3'] at e3;rw[e4'] at e4;clear e2' e3' e4' hc hw;generalize c.toNat=q at *
    go_wp2
    go_roundg ((bstr l).size-(k+1))
    case measure=>have:=Hg.out;omega
    case rel=>exact⟨k+1,rfl,by omega,by first|rfl|go_num,Hn.out,Hgl.out,HB1.out⟩
   have hall:normTo k l=(l).map norm:=by
    have hkl:(l).length≤k:=by rw[←Hs.out];omega
    unfold normTo;rw[List.take_of_length_le hkl,List.drop_of_length_le hkl,List.append_nil]
   have hback:(Go.convert 37 9 (.slice (some ⟨g,0,none⟩) (bstr l).size cap)).run Tryz.prog wr=.ok (.string (bstr ((l).map norm))) wr:=by
    have hy:=Hby.out;rw[hall] at hy;have hl:(bstr l).size=((l).map norm).length:=by rw[List.length_map,Hs.out]
    rw[hl];refine run_convert_bytes_back wr 37 9 5 ⟨g,0,none⟩ cap ((l).map norm) Tryz.underlying37 Tryz.underlying5 Tryz.underlying9 ?_;intro j hj;have:=hy.c j _ (List.getElem?_eq_getElem hj);unfold Addr.add;split
    ·rename_i h0
     subst h0;exact this
    simpa using this
   have HS:=hide (fun W=>strict_any (bstr ((l).map norm)) W (by rw[bstr_size,List.length_map];omega));rw[bstr_list,bstr_size,List.length_map] at HS;clear hall Hby
   obtain⟨y,hy⟩:∃y,sref (l).length 0 ((l).map norm)=y:=⟨_,rfl⟩;rw[hy] at HS
   cases y with
   | ok out=>
    have Hr:=hide (show strV z=.tuple #[.string (bstr out),.int .i64 (-1),.int .i64 0] by rw[←Hz.out,hy];rfl);unfold strV at HS;clear hy
    go_wp2_with fail
    refine (HS.out _).mono ?_;rintro e w2 ⟨rfl,b2⟩;go_wp2;go_ret3;rw[Hr.out];exact⟨rfl,HB1.out.trans (b2.mono HB1.out.size)⟩
   | error a=>
    have Hr:=hide (show strV z=.tuple #[.string ⟨#[]⟩,.int .i64 (a:Int),.int .i64 50] by rw[←Hz.out,hy];rfl);unfold strV at HS;clear hy
    go_wp2_with fail
    refine (HS.out _).mono ?_;rintro e w2 ⟨rfl,b2⟩;go_wp2;go_ret3;rw[Hr.out];exact⟨rfl,HB1.out.trans (b2.mono HB1.out.size)⟩
 | some k0=>
  have hkl:=less_le hk;rw[hk] at HX hz;dsimp only at HX hz;have hx:(bstr l).extract 0 k0=bstr (l.take k0):=by rw[extract_bstr,bstr_list,List.drop_zero,Nat.sub_zero]
  have hr1:(l.take k0).length=k0:=by rw[List.length_take];omega
  obtain⟨r,hr⟩:∃r,l.take k0=r:=⟨_,rfl⟩;rw[hr] at hx hz hr1;have Hz:=hide (show (match sref r.length 0 (r.map norm) with | .error a=>.error a | .ok _=>.error k0:Except Nat L)=z by rw[hr1];exact hz);have hrl:r.length≤100000:=by omega
  have hbd:(0:Int)≤(k0:Int)∧(k0:Int)≤((bstr l).size:Int):=by rw[bstr_size];omega
  clear hz hk hkl hr hr1 hl;obtain⟨W,g,cap,hconv,hb,hg,hgl,hby⟩:=bytes_mine r w;have Hs:=hide (bstr_size r);have HBy:=hide (show ByAt W g (normTo 0 r) from hby);have HB:=hide hb;have HG:=hide hg;clear hby hb hg
  go_enter Tryz.func89,Tryz.ntmps89
  go_wp2_with fail
  refine cq (HX.out _) ?_;go_wp2;clear hconv
  go_loopg [23] (bstr r).size (fun gk v wr=>∃k:Nat,gk=(bstr r).size-k∧k≤(bstr r).size∧v=.int .i64 (k:Int)∧ByAt wr g (normTo k r)∧g<wr.heap.size∧Below w.heap.size w wr)
  case atStart=>exact⟨0,rfl,by omega,rfl,HBy.out,hgl,HB.out⟩
  case round=>
   obtain⟨k,hgk,hk,rfl,hby,hgl,hb⟩:=hrel;have Hg:=hide hgk;have Hby:=hide hby
   have Hgl:=hide hgl;have HB1:=hide hb;clear hgk hby hgl hb HBy HB
   by_cases hlt:k<(bstr r).size
   ·obtain⟨c,hc⟩:∃c,(r)[k]?=some c:=⟨_,List.getElem?_eq_getElem (by rw[←Hs.out];exact hlt)⟩;have hcell:=Hby.out.c k c (normTo_at hc);have hfr:=Hby.out.f k (by rw[normTo_len,←Hs.out];exact hlt);have hk0:(0:Int)≤(k:Int):=by omega
    have hwk:IntKind.i64.wrap ((k:Int)+1)=(k:Int)+1:=IntWalk.i64_in _ (by have:=Hs.out;omega)
    have key:∀d:UInt8,((c.toNat:Int)==(d.toNat:Int))=(c==d):=fun d=>by
     rw[Bool.eq_iff_iff,beq_iff_eq,beq_iff_eq];exact⟨fun h=>UInt8.toNat_inj.1 (by omega),fun h=>by rw[h]⟩
    have e2:((c.toNat:Int)==9)=(c==9):=key 9;have e3:((c.toNat:Int)==10)=(c==10):=key 10;have e4:((c.toNat:Int)==13)=(c==13):=key 13;clear key
    by_cases hw:c=9∨c=10∨c=13
    ·have Hn:=hide (show ByAt (wr.setCell ⟨g,k,none⟩ (.int .u8 32)) g (normTo (k+1) r) by
      have h:=Hby.out.set (k:=k) (by rw[normTo_len,←Hs.out];exact hlt) 32;rw[normTo_next hc,show norm c=32 by unfold norm;rw[if_pos hw]];exact h)
     have HB2:=hide (HB1.out.setCell (p:=⟨g,k,none⟩) HG.out (.int .u8 32));have Hgl2:=hide (show g<(wr.setCell ⟨g,k,none⟩ (.int .u8 32)).heap.size by simpa[World.setCell] using Hgl.out);clear hc
     rcases hw with hw|hw|hw
     ·rw[hw] at e2 e3 e4 hcell;clear hw;have e2':(((9:UInt8))==9)=true:=by decide
      have e3':(((9:UInt8))==10)=false:=by decide
      have e4':(((9:UInt8))==13)=false:=by decide
      rw[e2'] at e2;rw[e3'] at e3;rw[e4'] at e4;clear e2' e3' e4';generalize (9:UInt8).toNat=q at *
      go_wp2
      go_roundg ((bstr r).size-(k+1))
      case measure=>have:=Hg.out;omega
      case rel=>exact⟨k+1,rfl,by omega,by first|rfl|go_num,Hn.out,Hgl2.out,HB2.out⟩
     ·rw[hw] at e2 e3 e4 hcell;clear hw;have e2':(((10:UInt8))==9)=false:=by decide
      have e3':(((10:UInt8))==10)=true:=by decide
      have e4':(((10:UInt8))==13)=false:=by decide
      rw[e2'] at e2;rw[e3'] at e3;rw[e4'] at e4;clear e2' e3' e4';generalize (10:UInt8).toNat=q at *
      go_wp2
      go_roundg ((bstr r).size-(k+1))
      case measure=>have:=Hg.out;omega
      case rel=>exact⟨k+1,rfl,by omega,by first|rfl|go_num,Hn.out,Hgl2.out,HB2.out⟩
     rw[hw] at e2 e3 e4 hcell;clear hw;have e2':(((13:UInt8))==9)=false:=by decide
     have e3':(((13:UInt8))==10)=false:=by decide
     have e4':(((13:UInt8))==13)=true:=by decide
     rw[e2'] at e2;rw[e3'] at e3;rw[e4'] at e4;clear e2' e3' e4';generalize (13:UInt8).toNat=q at *
     go_wp2
     go_roundg ((bstr r).size-(k+1))
     case measure=>have:=Hg.out;omega
     case rel=>exact⟨k+1,rfl,by omega,by first|rfl|go_num,Hn.out,Hgl2.out,HB2.out⟩
    have Hn:=hide (show ByAt wr g (normTo (k+1) r) by rw[normTo_same hc (by unfold norm;rw[if_neg hw])];exact Hby.out);have e2':(c==9)=false:=by rw[beq_eq_false_iff_ne];exact fun e=>hw (.inl e)
    have e3':(c==10)=false:=by rw[beq_eq_false_iff_ne];exact fun e=>hw (.inr (.inl e))
    have e4':(c==13)=false:=by rw[beq_eq_false_iff_ne];exact fun e=>hw (.inr (.inr e))
    rw[e2'] at e2;rw[e3'] at e3;rw[e4'] at e4;clear e2' e3' e4' hc hw;generalize c.toNat=q at *
    go_wp2
    go_roundg ((bstr r).size-(k+1))
    case measure=>have:=Hg.out;omega
    case rel=>exact⟨k+1,rfl,by omega,by first|rfl|go_num,Hn.out,Hgl.out,HB1.out⟩
   have hall:normTo k r=(r).map norm:=by
    have hkl:(r).length≤k:=by rw[←Hs.out];omega
    unfold normTo;rw[List.take_of_length_le hkl,List.drop_of_length_le hkl,List.append_nil]
   have hback:(Go.convert 37 9 (.slice (some ⟨g,0,none⟩) (bstr r).size cap)).run Tryz.prog wr=.ok (.string (bstr ((r).map norm))) wr:=by
    have hy:=Hby.out;rw[hall] at hy;have hl:(bstr r).size=((r).map norm).length:=by rw[List.length_map,Hs.out]
    rw[hl];refine run_convert_bytes_back wr 37 9 5 ⟨g,0,none⟩ cap ((r).map norm) Tryz.underlying37 Tryz.underlying5 Tryz.underlying9 ?_;intro j hj;have:=hy.c j _ (List.getElem?_eq_getElem hj);unfold Addr.add;split
    ·rename_i h0
     subst h0;exact this
    simpa using this
   have HS:=hide (fun W=>strict_any (bstr ((r).map norm)) W (by rw[bstr_size,List.length_map];omega));rw[bstr_list,bstr_size,List.length_map] at HS;clear hall Hby
   obtain⟨y,hy⟩:∃y,sref (r).length 0 ((r).map norm)=y:=⟨_,rfl⟩;rw[hy] at HS
   cases y with
   | ok out=>
    have Hr:=hide (show strV z=.tuple #[.string ⟨#[]⟩,.int .i64 (k0:Int),.int .i64 50] by rw[←Hz.out,hy];rfl);unfold strV at HS;clear hy
    go_wp2_with fail
    refine (HS.out _).mono ?_;rintro e w2 ⟨rfl,b2⟩;go_wp2;go_ret3;rw[Hr.out];exact⟨rfl,HB1.out.trans (b2.mono HB1.out.size)⟩
   | error a=>
    have Hr:=hide (show strV z=.tuple #[.string ⟨#[]⟩,.int .i64 (a:Int),.int .i64 50] by rw[←Hz.out,hy];rfl);unfold strV at HS;clear hy
    go_wp2_with fail
    refine (HS.out _).mono ?_;rintro e w2 ⟨rfl,b2⟩;go_wp2;go_ret3;rw[Hr.out];exact⟨rfl,HB1.out.trans (b2.mono HB1.out.size)⟩
end
section
open Go.RowKit Tk Sx

section
variable {α:Type} {f:α→List Value} {m:Nat}
theorem fm_length(h:∀x,(f x).length=m):∀l:List α,(l.flatMap f).length=l.length*m
 | []=>by simp
 | x :: l=>by rw[List.flatMap_cons,List.length_append,h,fm_length h l,List.length_cons,Nat.succ_mul];omega
theorem fm_at(h:∀x,(f x).length=m):∀(l:List α) (k:Nat) (hk:k<l.length) (j:Nat),j<m→(l.flatMap f)[k*m+j]?=(f l[k])[j]?
 | x :: l,0,_,j,hj=>by
  rw[List.flatMap_cons,List.getElem?_append_left (by rw[h];omega)];simp
 | x :: l,k+1,hk,j,hj=>by
  have e:(k+1)*m+j=m+(k*m+j):=by rw[Nat.succ_mul];omega
  rw[List.flatMap_cons,List.getElem?_append_right (by rw[h];omega),h,e,Nat.add_sub_cancel_left];exact fm_at h l k (by simpa using hk) j hj
theorem fm_snoc(l:List α)(x:α):(l++[x]).flatMap f=l.flatMap f++f x:=by simp
theorem fm_take(h:∀x,(f x).length=m):∀(l:List α) (k:Nat),(l.take k).flatMap f=(l.flatMap f).take (k*m)
 | [],k=>by simp
 | x :: l,0=>by simp
 | x :: l,k+1=>by
  have e:(k+1)*m=m+k*m:=by rw[Nat.succ_mul];omega
  rw[List.take_succ_cons,List.flatMap_cons,List.flatMap_cons,List.take_append,h,e,List.take_of_length_le (l:=f x) (by rw[h];omega),fm_take h l k,Nat.add_sub_cancel_left]
end
def elCells(x:El):List Value:=[.string (bstr x.written),.string (bstr x.name.ns),.string (bstr x.name.loc),.int .i64 (x.scope:Int)]
def els(l:List El):List Value:=l.flatMap elCells
def attCells(a:Att):List Value:=[.string (bstr a.name.ns),.string (bstr a.name.loc),.string (bstr a.val)]
def atts(l:List Att):List Value:=l.flatMap attCells
def splCells(s:Spl):List Value:=[.string (bstr s.pre),.string (bstr s.loc),.string (bstr s.val),.int .i64 (s.at_:Int)]
def spls(l:List Spl):List Value:=l.flatMap splCells
structure Ew where
 e:Ev
 A:Option Addr
 c:Nat
def ewCells(x:Ew):List Value:=[.int .i8 (x.e.kind:Int),.string (bstr x.e.name.ns),.string (bstr x.e.name.loc),.slice x.A x.e.attrs.length x.c,.string (bstr x.e.text)]
def ews(l:List Ew):List Value:=l.flatMap ewCells
theorem info_el:(Tryz.prog.info? 110).map (fun i=>(i.zero,i.size,i.bytes))=some (some (.agg #[.string ⟨#[]⟩,.string ⟨#[]⟩,.string ⟨#[]⟩,.int .i64 0]),4,56):=by kernel_rfl
theorem info_dcl:(Tryz.prog.info? 152).map (fun i=>(i.zero,i.size,i.bytes))=some (some (.agg #[.string ⟨#[]⟩,.string ⟨#[]⟩]),2,32):=by kernel_rfl
theorem info_ev:(Tryz.prog.info? 62).map (fun i=>(i.zero,i.size,i.bytes))=some (some (.agg #[.int .i8 0,.string ⟨#[]⟩,.string ⟨#[]⟩,.slice none 0 0,.string ⟨#[]⟩]),5,80):=by kernel_rfl
theorem info_atr:(Tryz.prog.info? 125).map (fun i=>(i.zero,i.size,i.bytes))=some (some (.agg #[.string ⟨#[]⟩,.string ⟨#[]⟩,.string ⟨#[]⟩]),3,48):=by kernel_rfl
theorem info_spl:(Tryz.prog.info? 150).map (fun i=>(i.zero,i.size,i.bytes))=some (some (.agg #[.string ⟨#[]⟩,.string ⟨#[]⟩,.string ⟨#[]⟩,.int .i64 0]),4,56):=by kernel_rfl

def Mine(w:World)(k:Nat):Prop:=IsT w k 110∨IsT w k 152∨IsT w k 62
structure Mov(B P:Nat)(w w':World):Prop where
 os:w'.os=w.os
 tape:w'.tape=w.tape
 output:w'.output=w.output
 size:w.heap.size≤w'.heap.size
 block:∀k,k<w.heap.size→k≠P→¬(B≤k∧Mine w k)→w'.heap[k]?=w.heap[k]?
theorem isT_same{w w':World}{k t:Nat}(h:IsT w k t)(e:w'.heap[k]?=w.heap[k]?):IsT w' k t:=by
 obtain⟨cs,fr,h⟩:=h;exact⟨cs,fr,e.trans h⟩
theorem mine_same{w w':World}{k:Nat}(h:Mine w k)(e:w'.heap[k]?=w.heap[k]?):Mine w' k:=by
 rcases h with h|h|h
 ·exact .inl (isT_same h e)
 ·exact .inr (.inl (isT_same h e))
 exact .inr (.inr (isT_same h e))
section
variable {B P:Nat} {w w1 w':World}
theorem Mov.refl(B P:Nat)(w:World):Mov B P w w:=⟨rfl,rfl,rfl,Nat.le_refl _,fun _ _ _ _=>rfl⟩
theorem Mov.trans(h:Mov B P w w1)(k:Mov B P w1 w'):Mov B P w w':=by
 refine⟨k.os.trans h.os,k.tape.trans h.tape,k.output.trans h.output,Nat.le_trans h.size k.size,fun i hi hb hn=>?_⟩;have e:=h.block i hi hb hn;rw[k.block i (Nat.lt_of_lt_of_le hi h.size) hb ?_,e];rintro ⟨h1,h2⟩;exact hn ⟨h1,mine_same h2 e.symm⟩
theorem Mov.of_below(h:Below w.heap.size w w'):Mov B P w w':=⟨h.os,h.tape,h.output,h.size,fun k hk _ _=>h.block k hk⟩
theorem Mov.go(h:Mov B P w w1)(k:Below w1.heap.size w1 w'):Mov B P w w':=h.trans (.of_below k)
theorem Mov.below{C:Nat}(h:Mov B P w w')(hB:C≤B)(hP:C≤P)(hs:C≤w.heap.size):Below C w w':=⟨h.os,h.tape,h.output,h.size,fun k hk=>h.block k (by omega) (by omega) (fun hh=>by omega)⟩
theorem Mov.drew(h:Mov B P w w1):Mov B P w w1.drew:=⟨h.os,h.tape,h.output,h.size,h.block⟩
theorem Mov.setCell(h:Mov B P w w1){p:Addr}(hp:p.block=P∨w.heap.size≤p.block)(u:Value):Mov B P w (w1.setCell p u):=by
 refine⟨h.os,h.tape,h.output,by simpa[World.setCell] using h.size,fun k hk hb hn=>?_⟩;rw[Below.heap_setCell _ _ _ _ (by omega)];exact h.block k hk hb hn
theorem Mov.setMine(h:Mov B P w w1){p:Addr}(hp:B≤p.block∧Mine w p.block)(u:Value):Mov B P w (w1.setCell p u):=by
 refine⟨h.os,h.tape,h.output,by simpa[World.setCell] using h.size,fun k hk hb hn=>?_⟩;rw[Below.heap_setCell _ _ _ _ (by rintro rfl;exact hn hp)];exact h.block k hk hb hn
theorem not_mine{k t:Nat}{cs:Array Value}(h:Blk w k t cs)(ht:t≠110∧t≠152∧t≠62):¬Mine w k:=by
 rintro (h2|h2|h2)
 ·exact isT_ne h.isT h2 ht.1
 ·exact isT_ne h.isT h2 ht.2.1
 exact isT_ne h.isT h2 ht.2.2
theorem Mov.blk{g t:Nat}{cs:Array Value}(h:Mov B P w w')(hg:Blk w g t cs)(hP:g≠P)(ht:t≠110∧t≠152∧t≠62):Blk w' g t cs :=
 (h.block g hg.lt hP (fun hh=>not_mine hg ht hh.2)).trans hg
theorem own_go{b e size n:Nat}{v:Value}{xs:List Value}(h:w.ownsRow b e size v n xs)(hb:Below w.heap.size w w'):w'.ownsRow b e size v n xs:=by
 refine⟨h.1,?_⟩
 rcases h.2 with hn|⟨g,cap,cur,rfl,hbg,hgg,rest⟩
 ·exact .inl hn
 exact .inr ⟨g,cap,cur,rfl,hbg,(hb.block g (Array.getElem?_eq_some_iff.1 hgg).1).trans hgg,rest⟩
theorem own_far{b e size n t:Nat}{v:Value}{xs:List Value}{p:Addr}{cs:Array Value}(h:w.ownsRow b e size v n xs)(hp:Blk w p.block t cs)(ht:e≠t)(u:Value):(w.setCell p u).ownsRow b e size v n xs:=by
 refine⟨h.1,?_⟩
 rcases h.2 with hn|⟨g,cap,cur,rfl,hbg,hgg,rest⟩
 ·exact .inl hn
 refine .inr ⟨g,cap,cur,rfl,hbg,(Below.heap_setCell _ _ _ _ (fun e1=>?_)).trans hgg,rest⟩;subst e1;rw[show w.heap[p.block]?=_ from hp] at hgg;injection hgg with hgg
 injection hgg with _ h2
 exact ht h2.symm
theorem own_take{b e size n c k:Nat}{A:Option Addr}{xs:List Value}(h:w.ownsRow b e size (.slice A n c) n xs)(hk:k≤n):w.ownsRow b e size (.slice A k c) k (xs.take (k*size)):=by
 have hm:k*size≤n*size:=Nat.mul_le_mul_right _ hk;refine⟨by rw[List.length_take,h.1];omega,?_⟩
 rcases h.2 with ⟨hn,h0⟩|⟨g,cap,cur,hv,hb,hh,h1,h2,h3,h4⟩
 ·subst h0;cases hn;have:k=0:=by omega
  subst this;exact .inl ⟨rfl,rfl⟩
 cases hv;refine .inr ⟨g,c,cur,rfl,hb,hh,by omega,h2,h3,?_⟩;rw[←h4,List.take_take,Nat.min_eq_left hm]
end
structure Ew.In(x:Ew)(B:Nat)(W:World):Prop where
 a:Reads W W.heap.size 3 x.A x.e.attrs.length (atts x.e.attrs)
 va:Above B x.A
 ta:Typed W x.A 125
theorem Ew.In.mov{x:Ew}{B P:Nat}{W W':World}(h:x.In B W)(hm:Mov B P W W')(hP:∀a,x.A=some a→a.block≠P):x.In B W':=by
 have sa:∀a,x.A=some a→W'.heap[a.block]?=W.heap[a.block]?:=fun a ha=>hm.block _ (h.ta a ha).lt (hP a ha) fun hh=>by
  rcases hh.2 with h2|h2|h2
  ·exact isT_ne (h.ta a ha) h2 (by decide)
  ·exact isT_ne (h.ta a ha) h2 (by decide)
  exact isT_ne (h.ta a ha) h2 (by decide)
 exact⟨h.a.same sa hm.size,h.va,h.ta.same sa⟩
def BadAt(B:Nat)(w:World)(b:Bad)(v:Value):Prop:=match b with
 | none=>v=.pointer none
 | some (a,e)=>∃F,B≤F∧v=.pointer (some ⟨F,0,none⟩)∧Blk w F 88 #[.int .i64 (a:Int),.int .i64 (e:Int)]
structure Pv where
 Ao:Option Addr
 co:Nat
 As:Option Addr
 cs:Nat
 Ae:Option Addr
 ce:Nat
 vb:Value
 xs:List Ew
def prCells(st:St)(v:Pv):Array Value:=#[.slice v.Ao st.open_.length v.co,.slice v.As st.scope.length v.cs,.slice v.Ae v.xs.length v.ce,.bool st.rooted,v.vb]
structure PI(B P:Nat)(w:World)(st:St)(b:Bad)(v:Pv):Prop where
 blk:Blk w P 80 (prCells st v)
 bp:B≤P
 o:w.ownsRow B 110 4 (.slice v.Ao st.open_.length v.co) st.open_.length (els st.open_)
 s:w.ownsRow B 152 2 (.slice v.As st.scope.length v.cs) st.scope.length (dcls st.scope)
 e:w.ownsRow B 62 5 (.slice v.Ae v.xs.length v.ce) v.xs.length (ews v.xs)
 ev:v.xs.map (·.e)=st.evs
 inn:∀x∈v.xs,x.In B w
 bad:BadAt B w b v.vb
theorem BadAt.go{B:Nat}{w w':World}{b:Bad}{v:Value}(h:BadAt B w b v)(hb:Below w.heap.size w w'):BadAt B w' b v:=by
 unfold BadAt at h ⊢
 cases b with
 | none=>exact h
 | some x=>
  obtain⟨F,h1,h2,h3⟩:=h;exact⟨F,h1,h2,h3.go hb⟩
theorem BadAt.mov{B P t:Nat}{w w':World}{b:Bad}{v:Value}{cs:Array Value}(h:BadAt B w b v)(hm:Mov B P w w')(hP:Blk w P t cs)(ht:t≠88):BadAt B w' b v:=by
 unfold BadAt at h ⊢
 cases b with
 | none=>exact h
 | some x=>
  obtain⟨F,h1,h2,h3⟩:=h;exact⟨F,h1,h2,hm.blk h3 (h3.ne_ hP ht.symm) (by decide)⟩
theorem ew_notP{B P:Nat}{w:World}{x:Ew}{cs:Array Value}(h:x.In B w)(hP:Blk w P 80 cs):∀a,x.A=some a→a.block≠P:=fun a ha e=>by
 subst e;exact isT_ne (h.ta a ha) hP.isT (by decide)
section
variable {B P:Nat} {w w':World} {st:St} {b:Bad} {v:Pv}
theorem PI.go(h:PI B P w st b v)(hb:Below w.heap.size w w'):PI B P w' st b v :=
 ⟨h.blk.go hb,h.bp,own_go h.o hb,own_go h.s hb,own_go h.e hb,h.ev,fun x hx=>(h.inn x hx).mov (.of_below hb) (ew_notP (h.inn x hx) h.blk),h.bad.go hb⟩
theorem PI.len(h:PI B P w st b v):v.xs.length=st.evs.length:=by rw[←h.ev,List.length_map]
theorem PI.put(h:PI B P w st b v){st':St}{b':Bad}{v':Pv}(i:Nat)(u:Value)(hc:(prCells st v).setIfInBounds i u=prCells st' v')(ho:v'.Ao=v.Ao∧v'.co=v.co∧st'.open_=st.open_)(hs:v'.As=v.As∧v'.cs=v.cs∧st'.scope=st.scope)
  (he:v'.Ae=v.Ae∧v'.ce=v.ce∧v'.xs=v.xs∧st'.evs=st.evs) (hb:BadAt B (w.setCell ⟨P,i,none⟩ u) b' v'.vb):PI B P (w.setCell ⟨P,i,none⟩ u) st' b' v':=by
 obtain⟨o1,o2,o3⟩:=ho;obtain⟨s1,s2,s3⟩:=hs;obtain⟨e1,e2,e3,e4⟩:=he;refine⟨by rw[←hc];exact h.blk.set_ i u,h.bp,?_,?_,?_,?_,?_,hb⟩
 ·rw[o1,o2,o3];exact own_far (p:=⟨P,i,none⟩) h.o h.blk (by decide) u
 ·rw[s1,s2,s3];exact own_far (p:=⟨P,i,none⟩) h.s h.blk (by decide) u
 ·rw[e1,e2,e3];exact own_far (p:=⟨P,i,none⟩) h.e h.blk (by decide) u
 ·rw[e3,e4];exact h.ev
 rw[e3];exact fun x hx=>(h.inn x hx).mov ((Mov.refl B P w).setCell (p:=⟨P,i,none⟩) (.inl rfl) u) (ew_notP (h.inn x hx) h.blk)
end
def WrongR(B P:Nat)(w:World)(st:St)(b:Bad)(v:Pv)(e:Ending)(w':World):Prop :=
 ∃vb,e=.returned (.tuple #[])∧PI B P w' st b ⟨v.Ao,v.co,v.As,v.cs,v.Ae,v.ce,vb,v.xs⟩∧Mov B P w w'
def WrongB(B P:Nat)(w:World)(st:St)(b:Bad)(v:Pv)(e:Ending)(w':World):Prop :=
 ∃vb,e=.returned (.tuple #[])∧PI B P w' st b ⟨v.Ao,v.co,v.As,v.cs,v.Ae,v.ce,vb,v.xs⟩∧But P w w'
theorem Mov.of_but{B P:Nat}{w w':World}(h:But P w w'):Mov B P w w':=⟨h.os,h.tape,h.output,h.size,fun k hk hP _=>h.block k hk hP⟩

theorem wrongB_any(B P:Nat)(w:World)(st:St)(b:Bad)(v:Pv)(at_ e_:Nat)(h:PI B P w st b v)(hB:B≤w.heap.size) :
  Calls Tryz.prog 56 #[.pointer (some ⟨P,0,none⟩),.int .i64 (at_:Int),.int .i64 (e_:Int)] w (WrongB B P w st (orB b at_ e_) v):=by
 have c4:w.cell? ⟨P,4,none⟩=some v.vb:=h.blk.cell 4;have f4:=h.blk.frozen 4;have H:=hide h;have hbad:=h.bad;have hP:=h.blk.lt;clear h;unfold BadAt at hbad
 cases b with
 | some x=>
  obtain⟨a,e1⟩:=x;obtain⟨F,hF,hv,hk⟩:=hbad;rw[hv] at c4;have Hv:=hide hv;clear hk hv
  go_enter Tryz.func56,Tryz.ntmps56
  go_wp2;go_end0;exact⟨v.vb,rfl,H.out,But.refl _ _⟩
 | none=>
  have hbad2:v.vb=.pointer none:=hbad;rw[hbad2] at c4;clear hbad hbad2
  go_enter Tryz.func56,Tryz.ntmps56
  go_wp2;go_end0;have H1:=H.out.go (below_alloc w (.cells #[.int .i64 (at_:Int),.int .i64 (e_:Int)] 88));rw[←World.setCell_alloc_past _ _ _ _ H.out.blk.lt];refine⟨.pointer (some ⟨w.heap.size,0,none⟩),rfl,H1.put 4 (.pointer (some ⟨w.heap.size,0,none⟩)) rfl ⟨rfl,rfl,rfl⟩ ⟨rfl,rfl,rfl⟩ ⟨rfl,rfl,rfl,rfl⟩ ?_,((But.refl P w).alloc _).setCell (p:=⟨P,4,none⟩) (.inl rfl) _⟩;exact⟨w.heap.size,hB,rfl,(Blk.new w 88 _).far (p:=⟨P,4,none⟩) (by simp;omega) _⟩
theorem wrong_any(B P:Nat)(w:World)(st:St)(b:Bad)(v:Pv)(at_ e_:Nat)(h:PI B P w st b v)(hB:B≤w.heap.size) :
  Calls Tryz.prog 56 #[.pointer (some ⟨P,0,none⟩),.int .i64 (at_:Int),.int .i64 (e_:Int)] w (WrongR B P w st (orB b at_ e_) v) :=
 (wrongB_any B P w st b v at_ e_ h hB).mono fun _ _ ⟨vb,he,h1,h2⟩=>⟨vb,he,h1,.of_but h2⟩
end
end Go.Proofs.YtifiiojchlaghaaGreatDoor
