/- Strict: a value as written: the program's Value. And more. -/
import Derived.Test.YtpdkeckeekchlaaGreatDoorOt11
set_option linter.unusedSimpArgs false
set_option maxHeartbeats 16000000
set_option linter.unusedVariables false
namespace Go.Proofs.YtpdkeckeekchlaaGreatDoor
section
open Go.RowKit Tk Sx

theorem Wj:∀l:L,Lib.indexByte l 60=match less l with|some k=>(k:Int) | none=>-1
 | []=>rfl
 | c :: r=>by
  have ih:=Wj r;unfold less Lib.indexByte
  by_cases h:c=60
  ·rw[if_pos h];simp[h]
  rw[if_neg h,ih]
  cases less r with
  | none=>simp[h]
  | some k=>simp[h]
theorem Wk:∀{l:L} {k:Nat},less l=some k→k<l.length
 | [],k,h=>by cases h
 | c :: r,k,h=>by
  unfold less at h
  by_cases h1:c=60
  ·rw[if_pos h1] at h;cases h;simp
  rw[if_neg h1] at h
  cases he:less r with
  | none=>rw[he] at h;cases h
  | some m=>
   rw[he] at h;simp only[Option.map_some,Option.some.injEq] at h;have:=Wk he;simp only[List.length_cons];omega
structure mS(W:World)(g:Nat)(l:L):Prop where
 c:∀(k:Nat) (c:UInt8),l[k]?=some c→W.cell? ⟨g,k,none⟩=some (.int .u8 (c.toNat:Nat))
 f:∀k,k<l.length→W.frozen? ⟨g,k,none⟩=false
theorem mS.set{W:World}{g:Nat}{l:L}(h:mS W g l){k:Nat}(hk:k<l.length)(d:UInt8):mS (W.setCell ⟨g,k,none⟩ (.int .u8 (d.toNat:Nat))) g (l.set k d):=by
 refine⟨fun j c hj=>?_,fun j hj=>?_⟩
 ·by_cases he:j=k
  ·subst he;rw[List.getElem?_set_self hk] at hj;cases hj;exact World.cell?_setCell_same _ _ _ (h.c j _ (List.getElem?_eq_getElem hk))
  rw[List.getElem?_set_ne (fun e=>he e.symm)] at hj;rw[World.cell?_setCell_other _ _ _ _ (by intro e;injection e with _ e;exact he e.symm)];exact h.c j c hj
 rw[World.frozen?_setCell];exact h.f j (by simpa using hj)
theorem R4(l:L)(w:World):∃W g cap,(Go.convert 9 50 (.string (aa l))).run Tryz.prog w=.ok (.slice (some ⟨g,0,none⟩) (aa l).size cap) W∧Below w.heap.size w W∧w.heap.size≤g∧g<W.heap.size∧mS W g l:=by
 refine⟨_,_,_,run_bytes_of_string (P:=Tryz.prog) w 9 50 5 (aa l) Tryz.underlying9 Tryz.underlying50 Tryz.underlying5,?_,Nat.le_refl _,?_,?_,?_⟩
 ·exact (Below.refl _ w).drew.alloc (by simp) _
 ·simp
 ·intro k c hc;obtain⟨h1,h2⟩:=List.getElem?_eq_some_iff.1 hc;have hk:k<(aa l).data.size:=by simpa[aa] using h1
  have:=bytesRow_at (aa l) (grownCap w (aa l).size 0 5) k hk;have e:w.heap.size=w.drew.heap.size:=rfl;rw[e,World.cell?_alloc_mark,this];have h3:(aa l).data[k]=c:=by simpa[aa] using h2
  rw[h3]
 intro k hk
 have hs:(bytesRow (aa l) (grownCap w (aa l).size 0 5)).size=(aa l).size+(grownCap w (aa l).size 0 5-(aa l).size):=by
  unfold bytesRow;rw[Array.size_append,Array.size_map,Array.size_replicate];rfl
 have e:(w.drew.alloc (.cells (bytesRow (aa l) (grownCap w (aa l).size 0 5)) 5 ((bytesRow (aa l) (grownCap w (aa l).size 0 5)).size,(bytesRow (aa l) (grownCap w (aa l).size 0 5)).size+1))).heap[w.heap.size]?=some (.cells (bytesRow (aa l) (grownCap w (aa l).size 0 5)) 5 ((bytesRow (aa l) (grownCap w (aa l).size 0 5)).size,(bytesRow (aa l) (grownCap w (aa l).size 0 5)).size+1)):=heap_alloc_new w.drew _;have hl:=aO l;unfold World.frozen?;rw[e];simp;omega
def gG(k:Nat)(l:L):L:=(l.take k).map norm++l.drop k
theorem CA(k:Nat)(l:L):(gG k l).length=l.length:=by unfold gG;simp only[List.length_append,List.length_map,List.length_take,List.length_drop];omega
theorem M0{k:Nat}{l:L}{c:UInt8}(h:l[k]?=some c):(gG k l)[k]?=some c:=by
 obtain⟨h1,h2⟩:=List.getElem?_eq_some_iff.1 h;unfold gG;rw[List.getElem?_append_right (by simp;omega)];simp;rw[Nat.min_eq_left (by omega),Nat.sub_self,Nat.add_zero];exact h
theorem Nc{k:Nat}{l:L}{c:UInt8}(h:l[k]?=some c):gG (k+1) l=(gG k l).set k (norm c):=by
 obtain⟨h1,h2⟩:=List.getElem?_eq_some_iff.1 h;have hl:((l.take k).map norm).length=k:=by simp;omega
 unfold gG;rw[List.take_succ_eq_append_getElem h1,h2,List.map_append,List.set_append_right _ _ (by omega),hl,Nat.sub_self,List.drop_eq_getElem_cons h1];simp[List.set]
theorem WL{k:Nat}{l:L}{c:UInt8}(h:l[k]?=some c)(hc:norm c=c):gG (k+1) l=gG k l:=by
 rw[Nc h,hc];refine List.ext_getElem? fun j=>?_
 by_cases he:k=j
 ·subst he;rw[List.getElem?_set_self (by rw[CA];exact (List.getElem?_eq_some_iff.1 h).1),M0 h]
 rw[List.getElem?_set_ne he]
theorem anh(l:L)(w:World)(hl:l.length≤100000) :
  Calls Tryz.prog 114 #[.string (aa l)] w fun e w'=>e=.returned (iZ (value l))∧Below w.heap.size w w':=by
 have HX:=ap (show ∀W,Calls Tryz.prog 54 #[.string (aa l),.int .u8 60] W fun e w'=>e=.returned (.int .i64 (match less l with|some k=>(k:Int) | none=>-1))∧w'=W from fun W=>by
  have h:=Tryz.strings_IndexByte (aa l) 60 W;rw[aZ] at h;rw[←Wj];exact h)
 obtain⟨z,hz⟩:∃z,value l=z:=⟨_,rfl⟩;rw[hz];unfold value at hz
 cases hk:less l with
 | none=>
  rw[hk] at HX hz;dsimp only at HX hz;have Hz:=ap hz;clear hz hk;obtain⟨W,g,cap,ny,hb,hg,dC,hby⟩:=R4 l w;have Hs:=ap (aO l);have zz:=ap (show mS W g (gG 0 l) from hby);have HB:=ap hb;have HG:=ap hg;clear hby hb hg
  go_enter Tryz.func114,Tryz.ntmps114
  go_wp2_with fail
  refine cq (HX.o _) ?_;go_wp2;clear ny
  go_loopg [23] (aa l).size (fun gk v wr=>∃k:Nat,gk=(aa l).size-k∧k≤(aa l).size∧v=.int .i64 (k:Int)∧mS wr g (gG k l)∧g<wr.heap.size∧Below w.heap.size w wr)
  case atStart=>exact⟨0,rfl,by omega,rfl,zz.o,dC,HB.o⟩
  case round=>
   obtain⟨k,au,hk,rfl,hby,dC,hb⟩:=hrel;have Hg:=ap au;have mg:=ap hby
   have zZ:=ap dC;have ax:=ap hb;clear au hby dC hb zz HB
   by_cases hlt:k<(aa l).size
   ·obtain⟨c,hc⟩:∃c,(l)[k]?=some c:=⟨_,List.getElem?_eq_getElem (by rw[←Hs.o];exact hlt)⟩;have hcell:=mg.o.c k c (M0 hc);have fJ:=mg.o.f k (by rw[CA,←Hs.o];exact hlt);have iT:(0:Int)≤(k:Int):=by omega
    have wK:IntKind.i64.wrap ((k:Int)+1)=(k:Int)+1:=IntWalk.i64_in _ (by have:=Hs.o;omega)
    have key:∀d:UInt8,((c.toNat:Int)==(d.toNat:Int))=(c==d):=fun d=>by
     rw[Bool.eq_iff_iff,beq_iff_eq,beq_iff_eq];exact⟨fun h=>UInt8.toNat_inj.1 (by omega),fun h=>by rw[h]⟩
    have e2:((c.toNat:Int)==9)=(c==9):=key 9;have e3:((c.toNat:Int)==10)=(c==10):=key 10;have e4:((c.toNat:Int)==13)=(c==13):=key 13;clear key
    by_cases hw:c=9∨c=10∨c=13
    ·have Hn:=ap (show mS (wr.setCell ⟨g,k,none⟩ (.int .u8 32)) g (gG (k+1) l) by
      have h:=mg.o.set (k:=k) (by rw[CA,←Hs.o];exact hlt) 32;rw[Nc hc,show norm c=32 by unfold norm;rw[if_pos hw]];exact h)
     have ag:=ap (ax.o.setCell (p:=⟨g,k,none⟩) HG.o (.int .u8 32));have vd:=ap (show g<(wr.setCell ⟨g,k,none⟩ (.int .u8 32)).heap.size by simpa[World.setCell] using zZ.o);clear hc
     rcases hw with hw|hw|hw
     ·rw[hw] at e2 e3 e4 hcell;clear hw;have fC:(((9:UInt8))==9)=true:=by decide
      have fD:(((9:UInt8))==10)=false:=by decide
      have fE:(((9:UInt8))==13)=false:=by decide
      rw[fC] at e2;rw[fD] at e3;rw[fE] at e4;clear fC fD fE;generalize (9:UInt8).toNat=q at *
      go_wp2
      go_roundg ((aa l).size-(k+1))
      case measure=>have:=Hg.o;omega
      case rel=>exact⟨k+1,rfl,by omega,by first|rfl|go_num,Hn.o,vd.o,ag.o⟩
     ·rw[hw] at e2 e3 e4 hcell;clear hw;have fC:(((10:UInt8))==9)=false:=by decide
      have fD:(((10:UInt8))==10)=true:=by decide
      have fE:(((10:UInt8))==13)=false:=by decide
      rw[fC] at e2;rw[fD] at e3;rw[fE] at e4;clear fC fD fE;generalize (10:UInt8).toNat=q at *
      go_wp2
      go_roundg ((aa l).size-(k+1))
      case measure=>have:=Hg.o;omega
      case rel=>exact⟨k+1,rfl,by omega,by first|rfl|go_num,Hn.o,vd.o,ag.o⟩
     rw[hw] at e2 e3 e4 hcell;clear hw;have fC:(((13:UInt8))==9)=false:=by decide
     have fD:(((13:UInt8))==10)=false:=by decide
     have fE:(((13:UInt8))==13)=true:=by decide
     rw[fC] at e2;rw[fD] at e3;rw[fE] at e4;clear fC fD fE;generalize (13:UInt8).toNat=q at *
     go_wp2
     go_roundg ((aa l).size-(k+1))
     case measure=>have:=Hg.o;omega
     case rel=>exact⟨k+1,rfl,by omega,by first|rfl|go_num,Hn.o,vd.o,ag.o⟩
    have Hn:=ap (show mS wr g (gG (k+1) l) by rw[WL hc (by unfold norm;rw[if_neg hw])];exact mg.o);have fC:(c==9)=false:=by rw[beq_eq_false_iff_ne];exact fun e=>hw (.inl e)
    have fD:(c==10)=false:=by rw[beq_eq_false_iff_ne];exact fun e=>hw (.inr (.inl e))
    have fE:(c==13)=false:=by rw[beq_eq_false_iff_ne];exact fun e=>hw (.inr (.inr e))
    rw[fC] at e2;rw[fD] at e3;rw[fE] at e4;clear fC fD fE hc hw;generalize c.toNat=q at *
    go_wp2
    go_roundg ((aa l).size-(k+1))
    case measure=>have:=Hg.o;omega
    case rel=>exact⟨k+1,rfl,by omega,by first|rfl|go_num,Hn.o,zZ.o,ax.o⟩
   have hall:gG k l=(l).map norm:=by
    have eh:(l).length≤k:=by rw[←Hs.o];omega
    unfold gG;rw[List.take_of_length_le eh,List.drop_of_length_le eh,List.append_nil]
   have hback:(Go.convert 50 9 (.slice (some ⟨g,0,none⟩) (aa l).size cap)).run Tryz.prog wr=.ok (.string (aa ((l).map norm))) wr:=by
    have hy:=mg.o;rw[hall] at hy;have hl:(aa l).size=((l).map norm).length:=by rw[List.length_map,Hs.o]
    rw[hl];refine run_convert_bytes_back wr 50 9 5 ⟨g,0,none⟩ cap ((l).map norm) Tryz.underlying50 Tryz.underlying5 Tryz.underlying9 ?_;intro j hj;have:=hy.c j _ (List.getElem?_eq_getElem hj);unfold Addr.add;split
    ·rename_i h0
     subst h0;exact this
    simpa using this
   have HS:=ap (fun W=>NY (aa ((l).map norm)) W (by rw[aO,List.length_map];omega));rw[aZ,aO,List.length_map] at HS;clear hall mg
   obtain⟨y,hy⟩:∃y,dm (l).length 0 ((l).map norm)=y:=⟨_,rfl⟩;rw[hy] at HS
   cases y with
   | ok out=>
    have Hr:=ap (show iZ z=.tuple #[.string (aa out),.int .i64 (-1),.int .i64 0] by rw[←Hz.o,hy];rfl);unfold iZ at HS;clear hy
    go_wp2_with fail
    refine (HS.o _).mono ?_;rintro e w2 ⟨rfl,b2⟩;go_wp2;go_ret3;rw[Hr.o];exact⟨rfl,ax.o.trans (b2.mono ax.o.size)⟩
   | error a=>
    have Hr:=ap (show iZ z=.tuple #[.string ⟨#[]⟩,.int .i64 (a:Int),.int .i64 50] by rw[←Hz.o,hy];rfl);unfold iZ at HS;clear hy
    go_wp2_with fail
    refine (HS.o _).mono ?_;rintro e w2 ⟨rfl,b2⟩;go_wp2;go_ret3;rw[Hr.o];exact⟨rfl,ax.o.trans (b2.mono ax.o.size)⟩
 | some k0=>
  have eh:=Wk hk;rw[hk] at HX hz;dsimp only at HX hz;have hx:(aa l).extract 0 k0=aa (l.take k0):=by rw[oD,aZ,List.drop_zero,Nat.sub_zero]
  have dH:(l.take k0).length=k0:=by rw[List.length_take];omega
  obtain⟨r,hr⟩:∃r,l.take k0=r:=⟨_,rfl⟩;rw[hr] at hx hz dH;have Hz:=ap (show (match dm r.length 0 (r.map norm) with | .error a=>.error a | .ok _=>.error k0:Except Nat L)=z by rw[dH];exact hz);have FE:r.length≤100000:=by omega
  have jq:(0:Int)≤(k0:Int)∧(k0:Int)≤((aa l).size:Int):=by rw[aO];omega
  clear hz hk eh hr dH hl;obtain⟨W,g,cap,ny,hb,hg,dC,hby⟩:=R4 r w;have Hs:=ap (aO r);have zz:=ap (show mS W g (gG 0 r) from hby);have HB:=ap hb;have HG:=ap hg;clear hby hb hg
  go_enter Tryz.func114,Tryz.ntmps114
  go_wp2_with fail
  refine cq (HX.o _) ?_;go_wp2;clear ny
  go_loopg [23] (aa r).size (fun gk v wr=>∃k:Nat,gk=(aa r).size-k∧k≤(aa r).size∧v=.int .i64 (k:Int)∧mS wr g (gG k r)∧g<wr.heap.size∧Below w.heap.size w wr)
  case atStart=>exact⟨0,rfl,by omega,rfl,zz.o,dC,HB.o⟩
  case round=>
   obtain⟨k,au,hk,rfl,hby,dC,hb⟩:=hrel;have Hg:=ap au;have mg:=ap hby
   have zZ:=ap dC;have ax:=ap hb;clear au hby dC hb zz HB
   by_cases hlt:k<(aa r).size
   ·obtain⟨c,hc⟩:∃c,(r)[k]?=some c:=⟨_,List.getElem?_eq_getElem (by rw[←Hs.o];exact hlt)⟩;have hcell:=mg.o.c k c (M0 hc);have fJ:=mg.o.f k (by rw[CA,←Hs.o];exact hlt);have iT:(0:Int)≤(k:Int):=by omega
    have wK:IntKind.i64.wrap ((k:Int)+1)=(k:Int)+1:=IntWalk.i64_in _ (by have:=Hs.o;omega)
    have key:∀d:UInt8,((c.toNat:Int)==(d.toNat:Int))=(c==d):=fun d=>by
     rw[Bool.eq_iff_iff,beq_iff_eq,beq_iff_eq];exact⟨fun h=>UInt8.toNat_inj.1 (by omega),fun h=>by rw[h]⟩
    have e2:((c.toNat:Int)==9)=(c==9):=key 9;have e3:((c.toNat:Int)==10)=(c==10):=key 10;have e4:((c.toNat:Int)==13)=(c==13):=key 13;clear key
    by_cases hw:c=9∨c=10∨c=13
    ·have Hn:=ap (show mS (wr.setCell ⟨g,k,none⟩ (.int .u8 32)) g (gG (k+1) r) by
      have h:=mg.o.set (k:=k) (by rw[CA,←Hs.o];exact hlt) 32;rw[Nc hc,show norm c=32 by unfold norm;rw[if_pos hw]];exact h)
     have ag:=ap (ax.o.setCell (p:=⟨g,k,none⟩) HG.o (.int .u8 32));have vd:=ap (show g<(wr.setCell ⟨g,k,none⟩ (.int .u8 32)).heap.size by simpa[World.setCell] using zZ.o);clear hc
     rcases hw with hw|hw|hw
     ·rw[hw] at e2 e3 e4 hcell;clear hw;have fC:(((9:UInt8))==9)=true:=by decide
      have fD:(((9:UInt8))==10)=false:=by decide
      have fE:(((9:UInt8))==13)=false:=by decide
      rw[fC] at e2;rw[fD] at e3;rw[fE] at e4;clear fC fD fE;generalize (9:UInt8).toNat=q at *
      go_wp2
      go_roundg ((aa r).size-(k+1))
      case measure=>have:=Hg.o;omega
      case rel=>exact⟨k+1,rfl,by omega,by first|rfl|go_num,Hn.o,vd.o,ag.o⟩
     ·rw[hw] at e2 e3 e4 hcell;clear hw;have fC:(((10:UInt8))==9)=false:=by decide
      have fD:(((10:UInt8))==10)=true:=by decide
      have fE:(((10:UInt8))==13)=false:=by decide
      rw[fC] at e2;rw[fD] at e3;rw[fE] at e4;clear fC fD fE;generalize (10:UInt8).toNat=q at *
      go_wp2
      go_roundg ((aa r).size-(k+1))
      case measure=>have:=Hg.o;omega
      case rel=>exact⟨k+1,rfl,by omega,by first|rfl|go_num,Hn.o,vd.o,ag.o⟩
     rw[hw] at e2 e3 e4 hcell;clear hw;have fC:(((13:UInt8))==9)=false:=by decide
     have fD:(((13:UInt8))==10)=false:=by decide
     have fE:(((13:UInt8))==13)=true:=by decide
     rw[fC] at e2;rw[fD] at e3;rw[fE] at e4;clear fC fD fE;generalize (13:UInt8).toNat=q at *
     go_wp2
     go_roundg ((aa r).size-(k+1))
     case measure=>have:=Hg.o;omega
     case rel=>exact⟨k+1,rfl,by omega,by first|rfl|go_num,Hn.o,vd.o,ag.o⟩
    have Hn:=ap (show mS wr g (gG (k+1) r) by rw[WL hc (by unfold norm;rw[if_neg hw])];exact mg.o);have fC:(c==9)=false:=by rw[beq_eq_false_iff_ne];exact fun e=>hw (.inl e)
    have fD:(c==10)=false:=by rw[beq_eq_false_iff_ne];exact fun e=>hw (.inr (.inl e))
    have fE:(c==13)=false:=by rw[beq_eq_false_iff_ne];exact fun e=>hw (.inr (.inr e))
    rw[fC] at e2;rw[fD] at e3;rw[fE] at e4;clear fC fD fE hc hw;generalize c.toNat=q at *
    go_wp2
    go_roundg ((aa r).size-(k+1))
    case measure=>have:=Hg.o;omega
    case rel=>exact⟨k+1,rfl,by omega,by first|rfl|go_num,Hn.o,zZ.o,ax.o⟩
   have hall:gG k r=(r).map norm:=by
    have eh:(r).length≤k:=by rw[←Hs.o];omega
    unfold gG;rw[List.take_of_length_le eh,List.drop_of_length_le eh,List.append_nil]
   have hback:(Go.convert 50 9 (.slice (some ⟨g,0,none⟩) (aa r).size cap)).run Tryz.prog wr=.ok (.string (aa ((r).map norm))) wr:=by
    have hy:=mg.o;rw[hall] at hy;have hl:(aa r).size=((r).map norm).length:=by rw[List.length_map,Hs.o]
    rw[hl];refine run_convert_bytes_back wr 50 9 5 ⟨g,0,none⟩ cap ((r).map norm) Tryz.underlying50 Tryz.underlying5 Tryz.underlying9 ?_;intro j hj;have:=hy.c j _ (List.getElem?_eq_getElem hj);unfold Addr.add;split
    ·rename_i h0
     subst h0;exact this
    simpa using this
   have HS:=ap (fun W=>NY (aa ((r).map norm)) W (by rw[aO,List.length_map];omega));rw[aZ,aO,List.length_map] at HS;clear hall mg
   obtain⟨y,hy⟩:∃y,dm (r).length 0 ((r).map norm)=y:=⟨_,rfl⟩;rw[hy] at HS
   cases y with
   | ok out=>
    have Hr:=ap (show iZ z=.tuple #[.string ⟨#[]⟩,.int .i64 (k0:Int),.int .i64 50] by rw[←Hz.o,hy];rfl);unfold iZ at HS;clear hy
    go_wp2_with fail
    refine (HS.o _).mono ?_;rintro e w2 ⟨rfl,b2⟩;go_wp2;go_ret3;rw[Hr.o];exact⟨rfl,ax.o.trans (b2.mono ax.o.size)⟩
   | error a=>
    have Hr:=ap (show iZ z=.tuple #[.string ⟨#[]⟩,.int .i64 (a:Int),.int .i64 50] by rw[←Hz.o,hy];rfl);unfold iZ at HS;clear hy
    go_wp2_with fail
    refine (HS.o _).mono ?_;rintro e w2 ⟨rfl,b2⟩;go_wp2;go_ret3;rw[Hr.o];exact⟨rfl,ax.o.trans (b2.mono ax.o.size)⟩
end
section
open Go.RowKit Tk Sx

section
variable {α:Type} {f:α→List Value} {m:Nat}
theorem vH(h:∀x,(f x).length=m):∀l:List α,(l.flatMap f).length=l.length*m
 | []=>by simp
 | x :: l=>by rw[List.flatMap_cons,List.length_append,h,vH h l,List.length_cons,Nat.succ_mul];omega
theorem xW(h:∀x,(f x).length=m):∀(l:List α) (k:Nat) (hk:k<l.length) (j:Nat),j<m→(l.flatMap f)[k*m+j]?=(f l[k])[j]?
 | x :: l,0,_,j,hj=>by
  rw[List.flatMap_cons,List.getElem?_append_left (by rw[h];omega)];simp
 | x :: l,k+1,hk,j,hj=>by
  have e:(k+1)*m+j=m+(k*m+j):=by rw[Nat.succ_mul];omega
  rw[List.flatMap_cons,List.getElem?_append_right (by rw[h];omega),h,e,Nat.add_sub_cancel_left];exact xW h l k (by simpa using hk) j hj
theorem Kz(l:List α)(x:α):(l++[x]).flatMap f=l.flatMap f++f x:=by simp
theorem KA(h:∀x,(f x).length=m):∀(l:List α) (k:Nat),(l.take k).flatMap f=(l.flatMap f).take (k*m)
 | [],k=>by simp
 | x :: l,0=>by simp
 | x :: l,k+1=>by
  have e:(k+1)*m=m+k*m:=by rw[Nat.succ_mul];omega
  rw[List.take_succ_cons,List.flatMap_cons,List.flatMap_cons,List.take_append,h,e,List.take_of_length_le (l:=f x) (by rw[h];omega),KA h l k,Nat.add_sub_cancel_left]
end
def oA(x:El):List Value:=[.string (aa x.written),.string (aa x.name.ns),.string (aa x.name.loc),.int .i64 (x.scope:Int)]
def els(l:List El):List Value:=l.flatMap oA
def ml(a:ft):List Value:=[.string (aa a.name.ns),.string (aa a.name.loc),.string (aa a.val)]
def jl(l:List ft):List Value:=l.flatMap ml
def uw(s:bT):List Value:=[.string (aa s.pre),.string (aa s.loc),.string (aa s.val),.int .i64 (s.at_:Int)]
def cS(l:List bT):List Value:=l.flatMap uw
structure Ew where
 e:Ev
 A:Option Addr
 c:Nat
def dS(x:Ew):List Value:=[.int .i8 (x.e.kind:Int),.string (aa x.e.name.ns),.string (aa x.e.name.loc),.slice x.A x.e.attrs.length x.c,.string (aa x.e.text)]
def ik(l:List Ew):List Value:=l.flatMap dS
theorem agN:(Tryz.prog.info? 140).map (fun i=>(i.zero,i.size,i.bytes))=some (some (.agg #[.string ⟨#[]⟩,.string ⟨#[]⟩,.string ⟨#[]⟩,.int .i64 0]),4,56):=by kernel_rfl
theorem VO:(Tryz.prog.info? 187).map (fun i=>(i.zero,i.size,i.bytes))=some (some (.agg #[.string ⟨#[]⟩,.string ⟨#[]⟩]),2,32):=by kernel_rfl
theorem MF:(Tryz.prog.info? 79).map (fun i=>(i.zero,i.size,i.bytes))=some (some (.agg #[.int .i8 0,.string ⟨#[]⟩,.string ⟨#[]⟩,.slice none 0 0,.string ⟨#[]⟩]),5,80):=by kernel_rfl
theorem agL:(Tryz.prog.info? 155).map (fun i=>(i.zero,i.size,i.bytes))=some (some (.agg #[.string ⟨#[]⟩,.string ⟨#[]⟩,.string ⟨#[]⟩]),3,48):=by kernel_rfl
theorem VP:(Tryz.prog.info? 185).map (fun i=>(i.zero,i.size,i.bytes))=some (some (.agg #[.string ⟨#[]⟩,.string ⟨#[]⟩,.string ⟨#[]⟩,.int .i64 0]),4,56):=by kernel_rfl

def Mine(w:World)(k:Nat):Prop:=bN w k 140∨bN w k 187∨bN w k 79
structure aF(B P:Nat)(w w':World):Prop where
 os:w'.os=w.os
 tape:w'.tape=w.tape
 output:w'.output=w.output
 size:w.heap.size≤w'.heap.size
 block:∀k,k<w.heap.size→k≠P→¬(B≤k∧Mine w k)→w'.heap[k]?=w.heap[k]?
theorem Ci{w w':World}{k t:Nat}(h:bN w k t)(e:w'.heap[k]?=w.heap[k]?):bN w' k t:=by
 obtain⟨cs,fr,h⟩:=h;exact⟨cs,fr,e.trans h⟩
theorem ahM{w w':World}{k:Nat}(h:Mine w k)(e:w'.heap[k]?=w.heap[k]?):Mine w' k:=by
 rcases h with h|h|h
 ·exact .inl (Ci h e)
 ·exact .inr (.inl (Ci h e))
 exact .inr (.inr (Ci h e))
section
variable {B P:Nat} {w w1 w':World}
theorem aF.refl(B P:Nat)(w:World):aF B P w w:=⟨rfl,rfl,rfl,Nat.le_refl _,fun _ _ _ _=>rfl⟩
theorem aF.trans(h:aF B P w w1)(k:aF B P w1 w'):aF B P w w':=by
 refine⟨k.os.trans h.os,k.tape.trans h.tape,k.output.trans h.output,Nat.le_trans h.size k.size,fun i hi hb hn=>?_⟩;have e:=h.block i hi hb hn;rw[k.block i (Nat.lt_of_lt_of_le hi h.size) hb ?_,e];rintro ⟨h1,h2⟩;exact hn ⟨h1,ahM h2 e.symm⟩
theorem aF.b8(h:Below w.heap.size w w'):aF B P w w':=⟨h.os,h.tape,h.output,h.size,fun k hk _ _=>h.block k hk⟩
theorem aF.go(h:aF B P w w1)(k:Below w1.heap.size w1 w'):aF B P w w':=h.trans (.b8 k)
theorem aF.below{C:Nat}(h:aF B P w w')(hB:C≤B)(hP:C≤P)(hs:C≤w.heap.size):Below C w w':=⟨h.os,h.tape,h.output,h.size,fun k hk=>h.block k (by omega) (by omega) (fun hh=>by omega)⟩
theorem aF.drew(h:aF B P w w1):aF B P w w1.drew:=⟨h.os,h.tape,h.output,h.size,h.block⟩
theorem aF.setCell(h:aF B P w w1){p:Addr}(hp:p.block=P∨w.heap.size≤p.block)(u:Value):aF B P w (w1.setCell p u):=by
 refine⟨h.os,h.tape,h.output,by simpa[World.setCell] using h.size,fun k hk hb hn=>?_⟩;rw[Below.heap_setCell _ _ _ _ (by omega)];exact h.block k hk hb hn
theorem aF.alj(h:aF B P w w1){p:Addr}(hp:B≤p.block∧Mine w p.block)(u:Value):aF B P w (w1.setCell p u):=by
 refine⟨h.os,h.tape,h.output,by simpa[World.setCell] using h.size,fun k hk hb hn=>?_⟩;rw[Below.heap_setCell _ _ _ _ (by rintro rfl;exact hn hp)];exact h.block k hk hb hn
theorem ah2{k t:Nat}{cs:Array Value}(h:ae w k t cs)(ht:t≠140∧t≠187∧t≠79):¬Mine w k:=by
 rintro (h2|h2|h2)
 ·exact gV h.fh h2 ht.1
 ·exact gV h.fh h2 ht.2.1
 exact gV h.fh h2 ht.2.2
theorem aF.blk{g t:Nat}{cs:Array Value}(h:aF B P w w')(hg:ae w g t cs)(hP:g≠P)(ht:t≠140∧t≠187∧t≠79):ae w' g t cs :=
 (h.block g hg.lt hP (fun hh=>ah2 hg ht hh.2)).trans hg
theorem fo{b e size n:Nat}{v:Value}{xs:List Value}(h:w.ownsRow b e size v n xs)(hb:Below w.heap.size w w'):w'.ownsRow b e size v n xs:=by
 refine⟨h.1,?_⟩
 rcases h.2 with hn|⟨g,cap,cur,rfl,jr,dT,rest⟩
 ·exact .inl hn
 exact .inr ⟨g,cap,cur,rfl,jr,(hb.block g (Array.getElem?_eq_some_iff.1 dT).1).trans dT,rest⟩
theorem dN{b e size n t:Nat}{v:Value}{xs:List Value}{p:Addr}{cs:Array Value}(h:w.ownsRow b e size v n xs)(hp:ae w p.block t cs)(ht:e≠t)(u:Value):(w.setCell p u).ownsRow b e size v n xs:=by
 refine⟨h.1,?_⟩
 rcases h.2 with hn|⟨g,cap,cur,rfl,jr,dT,rest⟩
 ·exact .inl hn
 refine .inr ⟨g,cap,cur,rfl,jr,(Below.heap_setCell _ _ _ _ (fun e1=>?_)).trans dT,rest⟩;subst e1;rw[show w.heap[p.block]?=_ from hp] at dT;injection dT with dT
 injection dT with _ h2
 exact ht h2.symm
theorem Xh{b e size n c k:Nat}{A:Option Addr}{xs:List Value}(h:w.ownsRow b e size (.slice A n c) n xs)(hk:k≤n):w.ownsRow b e size (.slice A k c) k (xs.take (k*size)):=by
 have hm:k*size≤n*size:=Nat.mul_le_mul_right _ hk;refine⟨by rw[List.length_take,h.1];omega,?_⟩
 rcases h.2 with ⟨hn,h0⟩|⟨g,cap,cur,hv,hb,hh,h1,h2,h3,h4⟩
 ·subst h0;cases hn;have:k=0:=by omega
  subst this;exact .inl ⟨rfl,rfl⟩
 cases hv;refine .inr ⟨g,c,cur,rfl,hb,hh,by omega,h2,h3,?_⟩;rw[←h4,List.take_take,Nat.min_eq_left hm]
end
structure Ew.In(x:Ew)(B:Nat)(W:World):Prop where
 a:Reads W W.heap.size 3 x.A x.e.attrs.length (jl x.e.attrs)
 va:px B x.A
 ta:Typed W x.A 155
theorem Ew.In.fZ{x:Ew}{B P:Nat}{W W':World}(h:x.In B W)(hm:aF B P W W')(hP:∀a,x.A=some a→a.block≠P):x.In B W':=by
 have sa:∀a,x.A=some a→W'.heap[a.block]?=W.heap[a.block]?:=fun a ha=>hm.block _ (h.ta a ha).lt (hP a ha) fun hh=>by
  rcases hh.2 with h2|h2|h2
  ·exact gV (h.ta a ha) h2 (by decide)
  ·exact gV (h.ta a ha) h2 (by decide)
  exact gV (h.ta a ha) h2 (by decide)
 exact⟨h.a.same sa hm.size,h.va,h.ta.same sa⟩
def gJ(B:Nat)(w:World)(b:bS)(v:Value):Prop:=match b with
 | none=>v=.pointer none
 | some (a,e)=>∃F,B≤F∧v=.pointer (some ⟨F,0,none⟩)∧ae w F 115 #[.int .i64 (a:Int),.int .i64 (e:Int)]
structure Pv where
 Ao:Option Addr
 co:Nat
 As:Option Addr
 cs:Nat
 Ae:Option Addr
 ce:Nat
 vb:Value
 xs:List Ew
def CI(st:St)(v:Pv):Array Value:=#[.slice v.Ao st.open_.length v.co,.slice v.As st.scope.length v.cs,.slice v.Ae v.xs.length v.ce,.bool st.gI,v.vb]
structure PI(B P:Nat)(w:World)(st:St)(b:bS)(v:Pv):Prop where
 blk:ae w P 107 (CI st v)
 bp:B≤P
 o:w.ownsRow B 140 4 (.slice v.Ao st.open_.length v.co) st.open_.length (els st.open_)
 s:w.ownsRow B 187 2 (.slice v.As st.scope.length v.cs) st.scope.length (aM st.scope)
 e:w.ownsRow B 79 5 (.slice v.Ae v.xs.length v.ce) v.xs.length (ik v.xs)
 ev:v.xs.map (·.e)=st.evs
 gU:∀x∈v.xs,x.In B w
 bad:gJ B w b v.vb
theorem gJ.go{B:Nat}{w w':World}{b:bS}{v:Value}(h:gJ B w b v)(hb:Below w.heap.size w w'):gJ B w' b v:=by
 unfold gJ at h ⊢
 cases b with
 | none=>exact h
 | some x=>
  obtain⟨F,h1,h2,h3⟩:=h;exact⟨F,h1,h2,h3.go hb⟩
theorem gJ.fZ{B P t:Nat}{w w':World}{b:bS}{v:Value}{cs:Array Value}(h:gJ B w b v)(hm:aF B P w w')(hP:ae w P t cs)(ht:t≠115):gJ B w' b v:=by
 unfold gJ at h ⊢
 cases b with
 | none=>exact h
 | some x=>
  obtain⟨F,h1,h2,h3⟩:=h;exact⟨F,h1,h2,hm.blk h3 (h3.Gq hP ht.symm) (by decide)⟩
theorem tu{B P:Nat}{w:World}{x:Ew}{cs:Array Value}(h:x.In B w)(hP:ae w P 107 cs):∀a,x.A=some a→a.block≠P:=fun a ha e=>by
 subst e;exact gV (h.ta a ha) hP.fh (by decide)
section
variable {B P:Nat} {w w':World} {st:St} {b:bS} {v:Pv}
theorem PI.go(h:PI B P w st b v)(hb:Below w.heap.size w w'):PI B P w' st b v :=
 ⟨h.blk.go hb,h.bp,fo h.o hb,fo h.s hb,fo h.e hb,h.ev,fun x hx=>(h.gU x hx).fZ (.b8 hb) (tu (h.gU x hx) h.blk),h.bad.go hb⟩
theorem PI.len(h:PI B P w st b v):v.xs.length=st.evs.length:=by rw[←h.ev,List.length_map]
theorem PI.put(h:PI B P w st b v){iH:St}{b':bS}{v':Pv}(i:Nat)(u:Value)(hc:(CI st v).setIfInBounds i u=CI iH v')(ho:v'.Ao=v.Ao∧v'.co=v.co∧iH.open_=st.open_)(hs:v'.As=v.As∧v'.cs=v.cs∧iH.scope=st.scope)
  (he:v'.Ae=v.Ae∧v'.ce=v.ce∧v'.xs=v.xs∧iH.evs=st.evs) (hb:gJ B (w.setCell ⟨P,i,none⟩ u) b' v'.vb):PI B P (w.setCell ⟨P,i,none⟩ u) iH b' v':=by
 obtain⟨o1,o2,o3⟩:=ho;obtain⟨s1,s2,s3⟩:=hs;obtain⟨e1,e2,e3,e4⟩:=he;refine⟨by rw[←hc];exact h.blk.aH i u,h.bp,?_,?_,?_,?_,?_,hb⟩
 ·rw[o1,o2,o3];exact dN (p:=⟨P,i,none⟩) h.o h.blk (by decide) u
 ·rw[s1,s2,s3];exact dN (p:=⟨P,i,none⟩) h.s h.blk (by decide) u
 ·rw[e1,e2,e3];exact dN (p:=⟨P,i,none⟩) h.e h.blk (by decide) u
 ·rw[e3,e4];exact h.ev
 rw[e3];exact fun x hx=>(h.gU x hx).fZ ((aF.refl B P w).setCell (p:=⟨P,i,none⟩) (.inl rfl) u) (tu (h.gU x hx) h.blk)
end
def abY(B P:Nat)(w:World)(st:St)(b:bS)(v:Pv)(e:Ending)(w':World):Prop :=
 ∃vb,e=.returned (.tuple #[])∧PI B P w' st b ⟨v.Ao,v.co,v.As,v.cs,v.Ae,v.ce,vb,v.xs⟩∧aF B P w w'
def abX(B P:Nat)(w:World)(st:St)(b:bS)(v:Pv)(e:Ending)(w':World):Prop :=
 ∃vb,e=.returned (.tuple #[])∧PI B P w' st b ⟨v.Ao,v.co,v.As,v.cs,v.Ae,v.ce,vb,v.xs⟩∧ai P w w'
theorem aF.fl{B P:Nat}{w w':World}(h:ai P w w'):aF B P w w':=⟨h.os,h.tape,h.output,h.size,fun k hk hP _=>h.block k hk hP⟩

theorem uA(B P:Nat)(w:World)(st:St)(b:bS)(v:Pv)(at_ e_:Nat)(h:PI B P w st b v)(hB:B≤w.heap.size) :
  Calls Tryz.prog 76 #[.pointer (some ⟨P,0,none⟩),.int .i64 (at_:Int),.int .i64 (e_:Int)] w (abX B P w st (za b at_ e_) v):=by
 have c4:w.cell? ⟨P,4,none⟩=some v.vb:=h.blk.cell 4;have f4:=h.blk.frozen 4;have H:=ap h;have Fa:=h.bad;have hP:=h.blk.lt;clear h;unfold gJ at Fa
 cases b with
 | some x=>
  obtain⟨a,e1⟩:=x;obtain⟨F,hF,hv,hk⟩:=Fa;rw[hv] at c4;have Hv:=ap hv;clear hk hv
  go_enter Tryz.func76,Tryz.ntmps76
  go_wp2;go_end0;exact⟨v.vb,rfl,H.o,ai.refl _ _⟩
 | none=>
  have Ul:v.vb=.pointer none:=Fa;rw[Ul] at c4;clear Fa Ul
  go_enter Tryz.func76,Tryz.ntmps76
  go_wp2;go_end0;have H1:=H.o.go (ay w (.cells #[.int .i64 (at_:Int),.int .i64 (e_:Int)] 115));rw[←World.setCell_alloc_past _ _ _ _ H.o.blk.lt];refine⟨.pointer (some ⟨w.heap.size,0,none⟩),rfl,H1.put 4 (.pointer (some ⟨w.heap.size,0,none⟩)) rfl ⟨rfl,rfl,rfl⟩ ⟨rfl,rfl,rfl⟩ ⟨rfl,rfl,rfl,rfl⟩ ?_,((ai.refl P w).alloc _).setCell (p:=⟨P,4,none⟩) (.inl rfl) _⟩;exact⟨w.heap.size,hB,rfl,(ae.new w 115 _).far (p:=⟨P,4,none⟩) (by simp;omega) _⟩
theorem pq(B P:Nat)(w:World)(st:St)(b:bS)(v:Pv)(at_ e_:Nat)(h:PI B P w st b v)(hB:B≤w.heap.size) :
  Calls Tryz.prog 76 #[.pointer (some ⟨P,0,none⟩),.int .i64 (at_:Int),.int .i64 (e_:Int)] w (abY B P w st (za b at_ e_) v) :=
 (uA B P w st b v at_ e_ h hB).mono fun _ _ ⟨vb,he,h1,h2⟩=>⟨vb,he,h1,.fl h2⟩
end
end Go.Proofs.YtpdkeckeekchlaaGreatDoor
