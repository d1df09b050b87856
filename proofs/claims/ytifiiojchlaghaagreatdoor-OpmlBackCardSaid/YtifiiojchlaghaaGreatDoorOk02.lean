/- UTF-8 and tokens in plain data: what stands at the front of a text is told by its own bytes; no program in sight. And more. -/
import Derived.Test.YtifiiojchlaghaaGreatDoorOk00
import Derived.Test.YtifiiojchlaghaaGreatDoorOk01
import Derived.Deep.QuietTactic
import Derived.BigQuiet
import Derived.Deep.LoopGhost
import Derived.WalkSpells
import Derived.WalkLawsBesides
import Derived.Laws.IdiomStrings
import Derived.LoopN
import Derived.RangeFuncNested
import Derived.RangeFuncBound
import Derived.RangeFuncCalls
import Derived.RangeFuncLeaves
import Derived.RangeFuncBox
import Derived.Lib.AppendStr
import Derived.Shelf.Abstract
import Derived.Shelf.RegionOpen
import Derived.OwnWalkIn
import Derived.TacticsInMore
import Derived.LoopNIn
import Derived.LoopIn
set_option linter.unusedSimpArgs false
set_option maxRecDepth 100000
set_option maxHeartbeats 4000000
set_option linter.unusedVariables false
namespace Go.Proofs.YtifiiojchlaghaaGreatDoor
section
namespace Utf

theorem cont_zero(l:List UInt8)(r n lo hi:Int):cont l 0 r n lo hi=(r,n):=by cases l<;>simp[cont]
theorem cont_take:∀(l:List UInt8) (k:Nat) (r n lo hi:Int),0≤(cont l k r n lo hi).1→∀y,cont (l.take k++y) k r n lo hi=cont l k r n lo hi
 | l,0,r,n,lo,hi,_,y=>by simp only[cont_zero]
 | [],k+1,r,n,lo,hi,h,_=>by simp[cont] at h
 | c :: l,k+1,r,n,lo,hi,h,y=>by
  rw[List.take_succ_cons,List.cons_append];simp only[cont] at h ⊢;split
  ·rfl
  rename_i hb;rw[if_neg hb] at h;exact cont_take l k _ _ _ _ h y
theorem follow_nonneg(c:UInt8):0≤(follow c.toNat).2.1:=by
 have hb:=byte_lt c;have:=follow_cases c.toNat (by omega) (by omega);omega
theorem piece_take{l:List UInt8}(h:0≤(piece l).1)(y:List UInt8):piece (l.take (piece l).2.toNat++y)=piece l:=by
 cases l with
 | nil=>simp[piece] at h
 | cons c l=>
  have hb:=follow_nonneg c;rw[piece_cons] at h ⊢
  by_cases hn:(follow c.toNat).1<0
  ·rw[if_pos hn] at h;simp at h
  rw[if_neg hn] at h ⊢;have h2:=cont_neg l (follow c.toNat).1.toNat (follow c.toNat).2.1 1 (follow c.toNat).2.2.1 (follow c.toNat).2.2.2 hb
  rcases h2 with h2|⟨_,h2⟩
  ·omega
  have e:(cont l (follow c.toNat).1.toNat (follow c.toNat).2.1 1 (follow c.toNat).2.2.1 (follow c.toNat).2.2.2).2.toNat=(follow c.toNat).1.toNat+1:=by rw[h2];omega
  rw[e,List.take_succ_cons,List.cons_append,piece_cons,if_neg hn];exact cont_take _ _ _ _ _ _ h y
theorem piece_app{p:List UInt8}(h:0≤(piece p).1)(q:List UInt8):piece (p++q)=piece p:=by
 have:=piece_take h (p.drop (piece p).2.toNat++q);rwa[←List.append_assoc,List.take_append_drop] at this
theorem piece_ascii{c:UInt8}(h:c.toNat<128)(l:List UInt8):piece (c :: l)=((c.toNat:Int),1):=by
 have e:follow (c.toNat:Int)=(0,(c.toNat:Int),128,191):=by unfold follow;rw[if_pos (by omega)]
 rw[piece_cons,e];simp[cont_zero]
theorem piece_n(c:UInt8)(l:List UInt8):1≤(piece (c :: l)).2.toNat∧(piece (c :: l)).2.toNat≤(c :: l).length:=by
 have:=piece_len c l;omega
theorem valid_step{c:UInt8}{l:List UInt8}(h:valid (c :: l)=true):0≤(piece (c :: l)).1∧valid ((c :: l).drop (piece (c :: l)).2.toNat)=true:=by
 rw[valid_cons] at h
 split at h
 ·cases h
 exact⟨by omega,h⟩
theorem app_step{c:UInt8}{l:List UInt8}(h:0≤(piece (c :: l)).1)(q:List UInt8):(c :: l++q).drop (piece (c :: l++q)).2.toNat=(c :: l).drop (piece (c :: l)).2.toNat++q:=by
 rw[piece_app h,List.drop_append_of_le_length (piece_n c l).2]
theorem from_app_n:∀(k:Nat) (p q:List UInt8) (at_:Nat),p.length≤k→valid p=true→from_ at_ (p++q)=from_ at_ p++from_ (at_+p.length) q:=by
 intro k
 induction k with
 | zero=>intro p q at_ hk _;cases p with
  | nil=>simp[from_nil]
  | cons c l=>simp at hk
 | succ k ih=>
  intro p q at_ hk hv
  cases p with
  | nil=>simp[from_nil]
  | cons c l=>
   obtain⟨h1,h2⟩:=valid_step hv;have hn:=piece_n c l;rw[List.cons_append,from_cons,from_cons,←List.cons_append,app_step h1,piece_app h1,ih _ q _ (by rw[List.length_drop];omega) h2,List.cons_append,List.length_drop];generalize (piece (c :: l)).2.toNat=m at *
   rw[show at_+m+((c :: l).length-m)=at_+(c :: l).length by omega]
theorem from_app{p:List UInt8}(h:valid p=true)(q:List UInt8)(at_:Nat):from_ at_ (p++q)=from_ at_ p++from_ (at_+p.length) q:=from_app_n _ p q at_ (Nat.le_refl _) h
theorem valid_app_n:∀(k:Nat) (p q:List UInt8),p.length≤k→valid p=true→valid (p++q)=valid q:=by
 intro k
 induction k with
 | zero=>intro p q hk _;cases p with
  | nil=>rfl
  | cons c l=>simp at hk
 | succ k ih=>
  intro p q hk hv
  cases p with
  | nil=>rfl
  | cons c l=>
   obtain⟨h1,h2⟩:=valid_step hv;have hn:=piece_n c l;rw[List.cons_append,valid_cons,←List.cons_append,piece_app h1,if_neg (by omega)];have:=app_step h1 q;rw[piece_app h1] at this;rw[this,ih _ q (by rw[List.length_drop];omega) h2]
theorem valid_app{p:List UInt8}(h:valid p=true)(q:List UInt8):valid (p++q)=valid q:=valid_app_n _ p q (Nat.le_refl _) h
theorem cont_high:∀(l:List UInt8) (k:Nat) (r n lo hi:Int),128≤lo→0≤(cont l k r n lo hi).1→∀i,i<k→∃c,l[i]?=some c∧128≤c.toNat
 | l,0,_,_,_,_,_,_,i,hi'=>by omega
 | [],k+1,_,_,_,_,_,h,_,_=>by simp[cont] at h
 | c :: l,k+1,r,n,lo,hi,hlo,h,i,hi'=>by
  simp only[cont] at h
  split at h
  ·simp at h
  rename_i hb
  cases i with
  | zero=>exact⟨c,rfl,by omega⟩
  | succ i=>
   obtain⟨d,h1,h2⟩:=cont_high l k _ _ 128 191 (by omega) h i (by omega);exact⟨d,by simpa using h1,h2⟩
theorem piece_high{l:List UInt8}(h:0≤(piece l).1)(i:Nat)(h1:0<i)(h2:i<(piece l).2.toNat):∃c,l[i]?=some c∧128≤c.toNat:=by
 cases l with
 | nil=>simp[piece] at h
 | cons c l=>
  have hb:=byte_lt c;have hc:=follow_cases c.toNat (by omega) (by omega);rw[piece_cons] at h h2
  by_cases hn:(follow c.toNat).1<0
  ·rw[if_pos hn] at h;simp at h
  rw[if_neg hn] at h h2;have h3:=cont_neg l (follow c.toNat).1.toNat (follow c.toNat).2.1 1 (follow c.toNat).2.2.1 (follow c.toNat).2.2.2 (follow_nonneg c)
  rcases h3 with h3|⟨_,h3⟩
  ·omega
  rw[h3] at h2
  cases i with
  | zero=>omega
  | succ i=>
   obtain⟨d,e1,e2⟩:=cont_high l _ _ _ _ _ (by
    rcases hc with hc|hc|hc|hc|hc
    ·have e:follow (c.toNat:Int)=(0,(c.toNat:Int),128,191):=by unfold follow;rw[if_pos hc.2.2]
     rw[e];exact Int.le_refl 128
    all_goals omega) h i (by omega)
   exact⟨d,by simpa using e1,e2⟩
theorem valid_split_n:∀(k:Nat) (p:List UInt8) (c:UInt8) (q:List UInt8),p.length≤k→c.toNat<128→valid (p++c :: q)=true→valid p=true:=by
 intro k
 induction k with
 | zero=>intro p c q hk _ _;cases p with
  | nil=>rfl
  | cons d l=>simp at hk
 | succ k ih=>
  intro p c q hk hc hv
  cases p with
  | nil=>rfl
  | cons d l=>
   obtain⟨h1,h2⟩:=valid_step (c:=d) (l:=l++c :: q) hv;have hn:=piece_n d (l++c :: q)
   have hle:(piece (d :: (l++c :: q))).2.toNat≤(d :: l).length:=by
    apply Nat.le_of_not_lt
    intro hlt;obtain⟨e,e1,e2⟩:=piece_high h1 (d :: l).length (by simp) hlt;rw[←List.cons_append,List.getElem?_append_right (Nat.le_refl _),Nat.sub_self] at e1;simp only[List.getElem?_cons_zero,Option.some.injEq] at e1;subst e1;omega
   have h3:=piece_take h1 ((d :: l).drop (piece (d :: (l++c :: q))).2.toNat);rw[←List.cons_append,List.take_append_of_le_length (by rw[List.cons_append];exact hle),List.cons_append,List.take_append_drop] at h3;rw[valid_cons,h3,if_neg (by omega)];rw[←List.cons_append,List.drop_append_of_le_length (by rw[List.cons_append];exact hle),List.cons_append] at h2;exact ih _ c q (by rw[List.length_drop];omega) hc h2
theorem valid_split{p:List UInt8}{c:UInt8}{q:List UInt8}(hc:c.toNat<128)(hv:valid (p++c :: q)=true):valid p=true:=valid_split_n _ p c q (Nat.le_refl _) hc hv
theorem from_ascii{c:UInt8}(hc:c.toNat<128)(q:List UInt8)(at_:Nat):from_ at_ (c :: q)=(at_,(c.toNat:Int)) :: from_ (at_+1) q:=by
 rw[from_cons,piece_ascii hc];rfl
theorem stop_split{ok:Nat→Int→Bool}(hok:∀k r,r<0→ok k r=false):∀(k:Nat) (l:List UInt8) (at_:Nat),l.length≤k→∃n,((((from_ at_ l).find? fun p=>!ok p.1 p.2).map (·.1)).getD (at_+l.length))=at_+n∧n≤l.length∧
  valid (l.take n)=true∧(∀p∈from_ at_ (l.take n),ok p.1 p.2=true)∧(n<l.length→ok (at_+n) (piece (l.drop n)).1=false):=by
 intro k
 induction k with
 | zero=>intro l at_ hk;cases l with
  | nil=>exact⟨0,rfl,Nat.le_refl _,rfl,(fun p hp=>nomatch hp),(fun h=>nomatch h)⟩
  | cons c l=>simp at hk
 | succ k ih=>
  intro l at_ hk
  cases l with
  | nil=>exact⟨0,rfl,Nat.le_refl _,rfl,(fun p hp=>nomatch hp),(fun h=>nomatch h)⟩
  | cons c l=>
   have hn:=piece_n c l;rw[from_cons,List.find?_cons];dsimp only
   cases ho:ok at_ (piece (c :: l)).1 with
   | false=>exact⟨0,rfl,by simp,rfl,(fun p hp=>nomatch hp),(fun _=>by simpa using ho)⟩
   | true=>
    have h0:0≤(piece (c :: l)).1:=Int.not_lt.1 fun h=>by rw[hok _ _ h] at ho;cases ho
    obtain⟨n,h1,h2,h3,h4,h5⟩:=ih ((c :: l).drop (piece (c :: l)).2.toNat) (at_+(piece (c :: l)).2.toNat) (by rw[List.length_drop];omega);generalize hm:(piece (c :: l)).2.toNat=m at *
    rw[List.length_drop] at h1 h2 h5;have e:at_+m+((c :: l).length-m)=at_+(c :: l).length:=by omega
    rw[e] at h1;have ht:(c :: l).take (m+n)=(c :: l).take m++((c :: l).drop m).take n:=List.take_add;have hp:=piece_take h0 [];rw[hm,List.append_nil] at hp;obtain⟨m',rfl⟩:∃m',m=m'+1:=⟨m-1,by omega⟩
    have hv1:valid ((c :: l).take (m'+1))=true:=by
     rw[List.take_succ_cons] at hp ⊢;rw[valid_cons,hp,if_neg (by omega),hm,List.drop_of_length_le (by simp;omega)];rfl
    refine⟨m'+1+n,by simp only[Bool.not_true];rw[h1];omega,by omega,?_,?_,?_⟩
    ·rw[ht,valid_app hv1,h3]
    ·rw[ht,from_app hv1];intro p hp'
     rcases List.mem_append.1 hp' with hp' | hp'
     ·rw[List.take_succ_cons] at hp hp';rw[from_cons,hp,hm,List.drop_of_length_le (by simp;omega),from_nil] at hp';simp only[List.mem_singleton] at hp';have e1:p.1=at_:=by rw[hp']
      have e2:p.2=(piece (c :: l)).1:=by rw[hp']
      rw[e1,e2];exact ho
     rw[List.length_take,Nat.min_eq_left hn.2] at hp';exact h4 p hp'
    intro hlt;have:=h5 (by omega);rwa[List.drop_drop,Nat.add_assoc] at this
theorem from_shift_n:∀(k:Nat) (l:List UInt8) (at_ d:Nat),l.length≤k→from_ (at_+d) l=(from_ at_ l).map fun p=>(p.1+d,p.2):=by
 intro k
 induction k with
 | zero=>intro l at_ d hk;cases l with
  | nil=>rfl
  | cons c l=>simp at hk
 | succ k ih=>
  intro l at_ d hk
  cases l with
  | nil=>rfl
  | cons c l=>
   have hn:=piece_n c l;rw[from_cons,from_cons,List.map_cons,←ih _ _ _ (by rw[List.length_drop];omega),Nat.add_right_comm]
theorem from_shift(l:List UInt8)(at_ d:Nat):from_ (at_+d) l=(from_ at_ l).map fun p=>(p.1+d,p.2):=from_shift_n _ l at_ d (Nat.le_refl _)
end Utf
namespace Tk
def Name(p:L):Prop:=Utf.valid p=true∧∀q∈Utf.from_ 0 p,nameOk q.1 q.2=true
theorem within_neg{r a b:Int}(h:r<0)(ha:0≤a):within r a b=false:=by
 unfold within;rw[decide_eq_false (by omega)];rfl
theorem firstOk_neg'{r:Int}(h:r<0):firstOk r=false:=by
 unfold firstOk;simp only[within_neg h (by decide:(0:Int)≤97),within_neg h (by decide:(0:Int)≤65),within_neg h (by decide:(0:Int)≤95),within_neg h (by decide:(0:Int)≤192),within_neg h (by decide:(0:Int)≤216),within_neg h (by decide:(0:Int)≤248),within_neg h (by decide:(0:Int)≤880),within_neg h (by decide:(0:Int)≤895),within_neg h (by decide:(0:Int)≤8204),within_neg h (by decide:(0:Int)≤8304),within_neg h (by decide:(0:Int)≤11264),within_neg h (by decide:(0:Int)≤12289),within_neg h (by decide:(0:Int)≤63744),within_neg h (by decide:(0:Int)≤65008),within_neg h (by decide:(0:Int)≤65536)];rfl
theorem nameOk_neg'(k:Nat)(r:Int)(h:r<0):nameOk k r=false:=by
 unfold nameOk furtherOk;rw[firstOk_neg' h];simp only[within_neg h (by decide:(0:Int)≤45),within_neg h (by decide:(0:Int)≤48),within_neg h (by decide:(0:Int)≤183),within_neg h (by decide:(0:Int)≤768),within_neg h (by decide:(0:Int)≤8255),decide_eq_false (show ¬r=58 by omega)];simp
theorem charOk_neg'(r:Int)(h:r<0):charOk r=false:=by
 unfold charOk;simp only[within_neg h (by decide:(0:Int)≤9),within_neg h (by decide:(0:Int)≤13),within_neg h (by decide:(0:Int)≤32),within_neg h (by decide:(0:Int)≤57344),within_neg h (by decide:(0:Int)≤65536)];rfl
theorem take_spec(l:L):take l≤l.length∧Name (l.take (take l))∧(take l<l.length→nameOk (take l) (Utf.piece (l.drop (take l))).1=false):=by
 obtain⟨n,h1,h2,h3,h4,h5⟩:=Utf.stop_split nameOk_neg' l.length l 0 (Nat.le_refl _)
 have e:take l=n:=by
  unfold take stop;rw[Nat.zero_add,Nat.zero_add] at h1;exact h1
 rw[e];rw[Nat.zero_add] at h5;exact⟨h2,⟨h3,h4⟩,h5⟩
theorem take_of{p q:L}(h:Name p)(hq:q=[]∨nameOk p.length (Utf.piece q).1=false):take (p++q)=p.length:=by
 unfold take stop;have e:Utf.pieces (p++q)=Utf.from_ 0 p++Utf.from_ (0+p.length) q:=Utf.from_app h.1 q 0;have hn:(Utf.from_ 0 p).find? (fun p=>!nameOk p.1 p.2)=none:=List.find?_eq_none.2 fun x hx=>by rw[h.2 x hx];simp
 rw[e,List.find?_append,hn,Option.none_or,Nat.zero_add]
 rcases hq with rfl|hq
 ·simp[Utf.from_nil]
 cases q with
 | nil=>simp[Utf.from_nil]
 | cons c q=>
  rw[Utf.from_cons,List.find?_cons];dsimp only;rw[hq];rfl
theorem pfx_app{p a r:L}(h:p.length≤a.length):p.isPrefixOf (a++r)=p.isPrefixOf a:=by
 rw[Bool.eq_iff_iff,List.isPrefixOf_iff_prefix,List.isPrefixOf_iff_prefix];exact⟨fun hp=>List.prefix_of_prefix_length_le hp (List.prefix_append _ _) h,fun hp=>hp.trans (List.prefix_append _ _)⟩
theorem index_first'{s p:L}{n:Nat}(h:Lib.index s p=n):Lib.occAt s p n=true∧n≤s.length∧∀j,j<n→Lib.occAt s p j=false:=by
 induction s generalizing n with
 | nil=>
  unfold Lib.index at h
  split at h
  ·rename_i he
   have:n=0:=by omega
   subst this;refine⟨?_,Nat.le_refl _,fun j hj=>by omega⟩
   cases p with
   | nil=>rfl
   | cons a t=>cases he
  omega
 | cons b l ih=>
  unfold Lib.index at h
  split at h
  ·rename_i he
   have:n=0:=by omega
   subst this;exact⟨by simpa[Lib.occAt] using he,by simp,fun j hj=>by omega⟩
  rename_i he
  split at h
  ·omega
  rename_i he2
  have he2:Lib.index l p≠-1:=by simpa using he2
  have hg:=Lib.index_ge l p;obtain⟨n',rfl⟩:∃n',n=n'+1:=⟨n-1,by omega⟩;obtain⟨h1,h2,h3⟩:=ih (n:=n') (by omega);refine⟨by simpa[Lib.occAt] using h1,by simpa using h2,fun j hj=>?_⟩
  cases j with
  | zero=>exact Bool.eq_false_iff.2 he
  | succ j=>simpa[Lib.occAt] using h3 j (by omega)
theorem till_iff{p l:L}{n:Nat}:till p l=some n↔Lib.index l p=n:=by
 unfold till
 constructor
 ·intro h
  split at h
  ·cases h
  rename_i hn
  have:=Option.some.inj h;omega
 intro h;rw[if_neg (by omega),h];simp
theorem occ_app{p a r:L}{i:Nat}(h:i+p.length≤a.length):Lib.occAt (a++r) p i=Lib.occAt a p i:=by
 unfold Lib.occAt;rw[List.drop_append_of_le_length (by omega),pfx_app (by rw[List.length_drop];omega)]
theorem till_app{p a r r':L}{n:Nat}(h:till p (a++r)=some n)(hn:n+p.length≤a.length):till p (a++r')=some n:=by
 rw[till_iff] at h ⊢;obtain⟨h1,h2,h3⟩:=index_first' h;refine Lib.index_first (by rw[List.length_append];omega) ?_ fun j hj=>?_
 ·rw[occ_app hn] at h1 ⊢;exact h1
 have:=h3 j hj;rw[occ_app (by omega)] at this ⊢;exact this
theorem till_len{p l:L}{n:Nat}(h:till p l=some n):n+p.length≤l.length:=by
 rw[till_iff] at h;obtain⟨h1,h2,h3⟩:=index_first' h
 rcases Lib.occAt_room h1 with h4|rfl
 ·exact h4
 simpa using h2
end Tk
end
section
open Go.RowKit Tk

end
section
open Go.RowKit Tk Sx

theorem drop_cons0{D:L}{k:Nat}{c:UInt8}(h:D[k]?=some c):D.drop k=c :: D.drop (k+1):=by
 obtain⟨h1,h2⟩:=List.getElem?_eq_some_iff.1 h;rw[←h2,←List.drop_eq_getElem_cons]
theorem bytes_of(s:ByteArray)(w:World):∃W g cap,(Go.convert 9 37 (.string s)).run Tryz.prog w=.ok (.slice (some ⟨g,0,none⟩) s.size cap) W∧Below w.heap.size w W∧g<W.heap.size∧
  ∀(k:Nat) (c:UInt8),s.data.toList[k]?=some c→W.cell? ⟨g,k,none⟩=some (.int .u8 (c.toNat:Nat)):=by
 refine⟨_,_,_,run_bytes_of_string (P:=Tryz.prog) w 9 37 5 s Tryz.underlying9 Tryz.underlying37 Tryz.underlying5,?_,?_,?_⟩
 ·exact (Below.refl _ w).drew.alloc (by simp) _
 ·simp
 intro k c hc;obtain⟨h1,h2⟩:=List.getElem?_eq_some_iff.1 hc;have hk:k<s.data.size:=by simpa using h1
 have:=bytesRow_at s (grownCap w s.size 0 5) k hk;have e:w.heap.size=w.drew.heap.size:=rfl;rw[e,World.cell?_alloc_mark,this];have h3:s.data[k]=c:=by simpa using h2
 rw[h3]

theorem land15(c:UInt8):bits BinOp.and IntKind.u8 (c.toNat:Int) 15=((c.toNat % 16:Nat):Int):=by
 have h:∀n:Fin 256,bits BinOp.and IntKind.u8 (n.val:Int) 15=((n.val % 16:Nat):Int):=by decide +kernel
 exact h ⟨c.toNat,c.toNat_lt⟩

theorem worth_any(c:UInt8)(w:World):Calls Tryz.prog 168 #[.int .u8 (c.toNat:Nat)] w fun e w'=>e=.returned (.int .i64 ((worth c:Nat):Int))∧w'=w:=by
 have hb:=land15 c;have hlt:=c.toNat_lt;have hm:c.toNat % 16<16:=Nat.mod_lt _ (by omega);obtain⟨z,hz⟩:∃z:Nat,c.toNat % 16=z:=⟨_,rfl⟩;rw[hz] at hb hm;have hw:IntKind.i64.wrap (z:Int)=(z:Int):=IntWalk.i64_in _ (by omega);have hw9:IntKind.i64.wrap ((z:Int)+9)=(z:Int)+9:=IntWalk.i64_in _ (by omega);obtain⟨q,hq⟩:∃q:Nat,c.toNat=q:=⟨_,rfl⟩;have Hq:worth c=if 48≤q∧q≤57 then q-48 else if 97≤q∧q≤102 then q-87 else if 65≤q∧q≤70 then q-55 else 16:=by rw[←hq];rfl
 rw[Hq];rw[hq] at hb hlt hz;rw[hq];clear hq Hq;obtain⟨R,hR⟩:∃R:Nat,(if 48≤q∧q≤57 then q-48 else if 97≤q∧q≤102 then q-87 else if 65≤q∧q≤70 then q-55 else 16)=R:=⟨_,rfl⟩;rw[hR]
 by_cases a1:48≤q
 ·by_cases a2:q≤57
  ·have Hr:=hide (show (z:Int)=(R:Int) by rw[←hR,if_pos ⟨a1,a2⟩];omega);have g1:(48:Int)≤(q:Int):=by omega
   have g2:(q:Int)≤57:=by omega
   clear hR hz hlt a1 a2
   go_enter Tryz.func168,Tryz.ntmps168
   go_wp2
   go_ret
   exact⟨ret_eq1 (int_eq (Hr.out)),rfl⟩
  by_cases b1:97≤q
  ·by_cases b2:q≤102
   ·have Hr:=hide (show (z:Int)+9=(R:Int) by rw[←hR,if_neg (by omega),if_pos ⟨b1,b2⟩];omega);have g1:(48:Int)≤(q:Int):=by omega
    have g2:¬(q:Int)≤57:=by omega
    have g3:(97:Int)≤(q:Int):=by omega
    have g4:(q:Int)≤102:=by omega
    clear hR hz hlt a1 a2 b1 b2
    go_enter Tryz.func168,Tryz.ntmps168
    go_wp2
    go_ret
    exact⟨ret_eq1 (int_eq (Hr.out)),rfl⟩
   have Hr:=hide (show (16:Int)=(R:Int) by rw[←hR,if_neg (by omega),if_neg (by omega),if_neg (by omega)];rfl);have g1:(48:Int)≤(q:Int):=by omega
   have g2:¬(q:Int)≤57:=by omega
   have g3:(97:Int)≤(q:Int):=by omega
   have g4:¬(q:Int)≤102:=by omega
   have g5:(65:Int)≤(q:Int):=by omega
   have g6:¬(q:Int)≤70:=by omega
   clear hR hz hlt a1 a2 b1 b2
   go_enter Tryz.func168,Tryz.ntmps168
   go_wp2
   go_ret
   exact⟨ret_eq1 (int_eq (Hr.out)),rfl⟩
  by_cases d1:65≤q
  ·by_cases d2:q≤70
   ·have Hr:=hide (show (z:Int)+9=(R:Int) by rw[←hR,if_neg (by omega),if_neg (by omega),if_pos ⟨d1,d2⟩];omega);have g1:(48:Int)≤(q:Int):=by omega
    have g2:¬(q:Int)≤57:=by omega
    have g3:¬(97:Int)≤(q:Int):=by omega
    have g5:(65:Int)≤(q:Int):=by omega
    have g6:(q:Int)≤70:=by omega
    clear hR hz hlt a1 a2 b1 d1 d2
    go_enter Tryz.func168,Tryz.ntmps168
    go_wp2
    go_ret
    exact⟨ret_eq1 (int_eq (Hr.out)),rfl⟩
   have Hr:=hide (show (16:Int)=(R:Int) by rw[←hR,if_neg (by omega),if_neg (by omega),if_neg (by omega)];rfl);have g1:(48:Int)≤(q:Int):=by omega
   have g2:¬(q:Int)≤57:=by omega
   have g3:¬(97:Int)≤(q:Int):=by omega
   have g5:(65:Int)≤(q:Int):=by omega
   have g6:¬(q:Int)≤70:=by omega
   clear hR hz hlt a1 a2 b1 d1 d2
   go_enter Tryz.func168,Tryz.ntmps168
   go_wp2
   go_ret
   exact⟨ret_eq1 (int_eq (Hr.out)),rfl⟩
  have Hr:=hide (show (16:Int)=(R:Int) by rw[←hR,if_neg (by omega),if_neg (by omega),if_neg (by omega)];rfl);have g1:(48:Int)≤(q:Int):=by omega
  have g2:¬(q:Int)≤57:=by omega
  have g3:¬(97:Int)≤(q:Int):=by omega
  have g5:¬(65:Int)≤(q:Int):=by omega
  clear hR hz hlt a1 a2 b1 d1
  go_enter Tryz.func168,Tryz.ntmps168
  go_wp2
  go_ret
  exact⟨ret_eq1 (int_eq (Hr.out)),rfl⟩
 have Hr:=hide (show (16:Int)=(R:Int) by rw[←hR,if_neg (by omega),if_neg (by omega),if_neg (by omega)];rfl);have g1:¬(48:Int)≤(q:Int):=by omega
 have g3:¬(97:Int)≤(q:Int):=by omega
 have g5:¬(65:Int)≤(q:Int):=by omega
 clear hR hz hlt a1
 go_enter Tryz.func168,Tryz.ntmps168
 go_wp2
 go_ret
 exact⟨ret_eq1 (int_eq (Hr.out)),rfl⟩

def endsI(l:L)(k:Nat):Int:=match Sx.ends (l.drop k) with
 | some n=>((k+n:Nat):Int)
 | none=>-1
theorem endsI_hit{l:L}{k:Nat}{c:UInt8}(hc:l[k]?=some c)(h:c=59):endsI l k=k:=by
 unfold endsI;rw[drop_cons0 hc];unfold Sx.ends;rw[if_pos h];rfl
theorem endsI_stop{l:L}{k:Nat}{c:UInt8}(hc:l[k]?=some c)(h0:c≠59)(h:c=38∨c=60):endsI l k = -1:=by
 unfold endsI;rw[drop_cons0 hc];unfold Sx.ends;rw[if_neg h0,if_pos h]
theorem endsI_next{l:L}{k:Nat}{c:UInt8}(hc:l[k]?=some c)(h0:c≠59)(h1:c≠38)(h2:c≠60):endsI l k=endsI l (k+1):=by
 unfold endsI;rw[drop_cons0 hc]
 conv=>lhs;unfold Sx.ends
 rw[if_neg h0,if_neg (by simp[h1,h2])]
 cases Sx.ends (l.drop (k+1)) with
 | none=>rfl
 | some n=>simp only[Option.map_some];congr 1;omega
theorem endsI_none{l:L}{k:Nat}(h:l.length≤k):endsI l k = -1:=by
 unfold endsI;rw[List.drop_of_length_le h];rfl

theorem ends_any(s:ByteArray)(w:World)(hs:s.size≤1000000000) :
  Calls Tryz.prog 130 #[.string s] w fun e w'=>e=.returned (.int .i64 (endsI s.data.toList 0))∧Below w.heap.size w w':=by
 obtain⟨W,g,cap,hconv,hb,hg,hat⟩:=bytes_of s w;obtain⟨D,hD⟩:∃D,s.data.toList=D:=⟨_,rfl⟩;have HDl:=hide (show D.length=s.size by rw[←hD,size_list]);rw[hD] at hat ⊢;obtain⟨z,hz⟩:∃z,endsI D 0=z:=⟨_,rfl⟩;have Hz:=hide hz;rw[hz];have Hat:=hide hat;have HB:=hide hb;clear hD hz hat hb
 go_enter Tryz.func130,Tryz.ntmps130
 go_wp2;clear hconv
 go_loopg [8] s.size (fun gk v wr=>∃k:Nat,gk=s.size-k∧k≤s.size∧v=.int .i64 (k:Int)∧endsI D k=z∧wr=W)
 case atStart=>exact⟨0,rfl,by omega,rfl,Hz.out,rfl⟩
 case round=>
  obtain⟨k,hgk,hk,rfl,hzk,rfl⟩:=hrel;have Hg:=hide hgk;have Hzk:=hide hzk;clear hgk hzk Hz
  by_cases hlt:k<s.size
  ·obtain⟨c,hc⟩:∃c,D[k]?=some c:=⟨_,List.getElem?_eq_getElem (by rw[HDl.out];exact hlt)⟩;have hcell:=Hat.out k c hc;have hk0:(0:Int)≤(k:Int):=by omega
   have key:∀d:UInt8,((c.toNat:Int)==(d.toNat:Int))=(c==d):=fun d=>by
    rw[Bool.eq_iff_iff,beq_iff_eq,beq_iff_eq];exact⟨fun h=>UInt8.toNat_inj.1 (by omega),fun h=>by rw[h]⟩
   have e1:((c.toNat:Int)==59)=(c==59):=key 59;have e2:((c.toNat:Int)==38)=(c==38):=key 38;have e3:((c.toNat:Int)==60)=(c==60):=key 60;clear key
   by_cases h1:c=59
   ·have Hr:=hide (show (k:Int)=z by rw[←Hzk.out,endsI_hit hc h1]);have q1:(c==59)=true:=by rw[beq_iff_eq];exact h1
    clear h1 hc Hzk e2 e3;go_wp2;go_ret;exact⟨ret_eq1 (int_eq Hr.out),HB.out⟩
   have q1:(c==59)=false:=by rw[beq_eq_false_iff_ne];exact h1
   by_cases h2:c=38
   ·have Hr:=hide (show (-1:Int)=z by rw[←Hzk.out,endsI_stop hc h1 (.inl h2)]);have q2:(c==38)=true:=by rw[beq_iff_eq];exact h2
    clear h1 h2 hc Hzk e3;go_wp2;go_ret;exact⟨ret_eq1 (int_eq Hr.out),HB.out⟩
   have q2:(c==38)=false:=by rw[beq_eq_false_iff_ne];exact h2
   by_cases h3:c=60
   ·have Hr:=hide (show (-1:Int)=z by rw[←Hzk.out,endsI_stop hc h1 (.inr h3)]);have q3:(c==60)=true:=by rw[beq_iff_eq];exact h3
    clear h1 h2 h3 hc Hzk;go_wp2;go_ret;exact⟨ret_eq1 (int_eq Hr.out),HB.out⟩
   have q3:(c==60)=false:=by rw[beq_eq_false_iff_ne];exact h3
   have Hn:=hide (show endsI D (k+1)=z by rw[←Hzk.out,endsI_next hc h1 h2 h3]);clear h1 h2 h3 hc Hzk;go_wp2
   go_roundg (s.size-(k+1))
   case measure=>have:=Hg.out;omega
   case rel=>exact⟨k+1,rfl,by omega,by go_num,Hn.out,rfl⟩
  have Hr:=hide (show (-1:Int)=z by rw[←Hzk.out,endsI_none (by rw[HDl.out];omega)]);clear Hzk;go_wp2;go_ret;exact⟨ret_eq1 (int_eq Hr.out),HB.out⟩
end
section
open Go.RowKit

theorem is_any(r:Int)(w:World):Calls Tryz.prog 169 #[.int .i64 r] w fun e w'=>e=.returned (.bool (Utf.isScalar r))∧w=w':=by
 by_cases h0:0≤r
 ·by_cases h1:r≤1114111
  ·by_cases h2:r<55296
   all_goals
    go_enter Tryz.func169,Tryz.ntmps169
    go_wp2;go_ret;exact⟨ret_eq1 (bool_eq (by rw[Bool.eq_iff_iff];simp[Utf.isScalar];omega)),rfl⟩
  go_enter Tryz.func169,Tryz.ntmps169
  go_wp2;go_ret;exact⟨ret_eq1 (bool_eq (by rw[Bool.eq_iff_iff];simp[Utf.isScalar];omega)),rfl⟩
 go_enter Tryz.func169,Tryz.ntmps169
 go_wp2;go_ret;exact⟨ret_eq1 (bool_eq (by rw[Bool.eq_iff_iff];simp[Utf.isScalar];omega)),rfl⟩

def lenOf(r:Int):Int:=if r<128 then 1 else if r<2048 then 2 else if r<65536 then 3 else 4

theorem len_no(r:Int)(w:World)(h:Utf.isScalar r=false):Calls Tryz.prog 133 #[.int .i64 r] w fun e w'=>e=.returned (.int .i64 0)∧w=w':=by
 have H:=hide h;clear h
 go_enter Tryz.func133,Tryz.ntmps133
 go_wp2_with (go_at_call 169;refine (is_any _ _).mono ?_;rintro e w' ⟨rfl,rfl⟩;rw[H.out])
 go_ret;exact⟨rfl,rfl⟩

theorem len_yes(r:Int)(w:World)(h:Utf.isScalar r=true):Calls Tryz.prog 133 #[.int .i64 r] w fun e w'=>e=.returned (.int .i64 (lenOf r))∧Below w.heap.size w w':=by
 have h1:0≤r∧r≤1114111:=by simp[Utf.isScalar] at h;omega
 obtain⟨h1,h2⟩:=h1;have H:=hide h;clear h;have i0:∀w,(Instr.index 206 (.agg #[.int .i64 128,.int .i64 2048,.int .i64 65536,.int .i64 1114112]) (.int .i64 0)).run Tryz.prog w=.ok (.int .i64 128) w:=fun _=>by kernel_rfl
 have i1:∀w,(Instr.index 206 (.agg #[.int .i64 128,.int .i64 2048,.int .i64 65536,.int .i64 1114112]) (.int .i64 1)).run Tryz.prog w=.ok (.int .i64 2048) w:=fun _=>by kernel_rfl
 have i2:∀w,(Instr.index 206 (.agg #[.int .i64 128,.int .i64 2048,.int .i64 65536,.int .i64 1114112]) (.int .i64 2)).run Tryz.prog w=.ok (.int .i64 65536) w:=fun _=>by kernel_rfl
 have i3:∀w,(Instr.index 206 (.agg #[.int .i64 128,.int .i64 2048,.int .i64 65536,.int .i64 1114112]) (.int .i64 3)).run Tryz.prog w=.ok (.int .i64 1114112) w:=fun _=>by kernel_rfl
 go_enter Tryz.func133,Tryz.ntmps133
 go_wp2_with (go_at_call 169;refine (is_any _ _).mono ?_;rintro e w' ⟨rfl,rfl⟩;rw[H.out])
 refine wp_loop_rounds 4 ?_;rw[rounds_succ];go_wp2
 ·go_ret;exact⟨ret_eq1 (int_eq (by unfold lenOf;rw[if_pos (by omega)])),(Below.refl _ _).alloc (Nat.le_refl _) _⟩
 rw[rounds_succ];go_wp2
 ·go_ret;exact⟨ret_eq1 (int_eq (by unfold lenOf;rw[if_neg (by omega),if_pos (by omega)])),(Below.refl _ _).alloc (Nat.le_refl _) _⟩
 rw[rounds_succ];go_wp2
 ·go_ret;exact⟨ret_eq1 (int_eq (by unfold lenOf;rw[if_neg (by omega),if_neg (by omega),if_pos (by omega)])),(Below.refl _ _).alloc (Nat.le_refl _) _⟩
 rw[rounds_succ];go_wp2;go_ret;exact⟨ret_eq1 (int_eq (by unfold lenOf;rw[if_neg (by omega),if_neg (by omega),if_neg (by omega)])),(Below.refl _ _).alloc (Nat.le_refl _) _⟩

theorem put_no(r:Int)(w:World)(h:Utf.isScalar r=false):Calls Tryz.prog 93 #[.int .i64 r] w fun e w'=>e=.returned (.tuple #[.string ⟨#[]⟩,.bool false])∧w=w':=by
 go_enter Tryz.func93,Tryz.ntmps93
 have H:=hide h;clear h
 go_wp2_with (go_at_call 133;refine (len_no _ _ H.out).mono ?_;rintro e w' ⟨rfl,rfl⟩)
 go_ret2;exact⟨rfl,rfl⟩

theorem put_one(r:Int)(w:World)(h0:0≤r)(h1:r<128):Calls Tryz.prog 93 #[.int .i64 r] w fun e w'=>(∃t:ByteArray,e=.returned (.tuple #[.string t,.bool true])∧StrIs t ((Utf.put r).map bv))∧Below w.heap.size w w':=by
 have H:Hid (Utf.isScalar r=true):=by show Utf.isScalar r=true;simp[Utf.isScalar];omega
 have L:Hid (lenOf r=1):=by show lenOf r=1;unfold lenOf;rw[if_pos h1]
 go_enter Tryz.func93,Tryz.ntmps93
 go_wp2_with (first
  | (go_at_call 133;refine (len_yes _ _ H.out).mono ?_;rintro e w1 ⟨rfl,hb⟩;rw[L.out])
  | (with_reducible show wpList _ _ _ (⟨_,.convert 37 9 _,_,_,_,_⟩ :: _) _ _;refine wpList_to_string rfl 37 9 5 _ rfl Tryz.underlying37 Tryz.underlying5 Tryz.underlying9 w1.heap.size _ 1 rfl [bv r] (own_byte_lit w1 _ r h0 (by omega)) ?_;intro t ht))
 go_ret2;exact⟨⟨t,rfl,by unfold Utf.put;rw[if_pos h1];exact ht⟩,hb.alloc hb.size _⟩

theorem u8_or_of(x y:Int)(k:Nat)(h0:0≤x)(hy:0≤y)(hk:y<2 ^ k)(hx:x*2 ^ k+y<256)(z:Int)(hz:z=x*2 ^ k):bits .or .u8 z y=z+y:=by
 subst hz;exact u8_or_add x y k h0 hy hk hx

theorem put_many(r:Int)(w:World)(h0:128≤r)(h1:Utf.isScalar r=true):Calls Tryz.prog 93 #[.int .i64 r] w fun e w'=>(∃t:ByteArray,e=.returned (.tuple #[.string t,.bool true])∧StrIs t ((Utf.put r).map bv))∧Below w.heap.size w w':=by
 have h2:r≤1114111:=by simp[Utf.isScalar] at h1;omega
 have H:=hide h1;clear h1
 go_enter Tryz.func93,Tryz.ntmps93
 by_cases ha:r<2048
 ·have L:Hid (lenOf r=2):=by show lenOf r=2;unfold lenOf;rw[if_neg (by omega),if_pos ha]
  have hmk:∀w,(Instr.makeSlice 37 (.int .i64 2) (.int .i64 2)).run Tryz.prog w=.ok (.slice (some ⟨w.heap.size,0,none⟩) 2 2) (w.alloc (.cells #[.int .u8 0,.int .u8 0] 5)):=fun _=>by kernel_rfl
  have hor:bits .or .u8 192 (r / 64 % 256)=192+r / 64:=by rw[show r / 64 % 256=r / 64 from by omega];exact u8_or_of 6 _ 5 (by omega) (by omega) (by omega) (by omega) _ rfl
  go_wp2_with (first
   | (go_at_call 133;refine (len_yes _ _ H.out).mono ?_;rintro e w1 ⟨rfl,hb⟩;rw[L.out]))
  refine wp_loop_rounds 2 ?_;rw[rounds_succ];go_wp2;rw[rounds_succ]
  go_wp2_with (with_reducible show wpList _ _ _ (⟨_,.convert 37 9 _,_,_,_,_⟩ :: _) _ _;refine wpList_to_string rfl 37 9 5 _ rfl Tryz.underlying37 Tryz.underlying5 Tryz.underlying9 (w1.heap.size+1) _ 2 rfl _ (own_bytes2 (w1.alloc _) _ _ _ (by simp) (Nat.le_refl _) (192+r / 64) (128+r % 64) (by omega) (by omega)) ?_;intro t ht)
  go_ret2;exact⟨⟨t,rfl,by unfold Utf.put;rw[if_neg (show ¬r<128 by omega),if_pos (show r<2048 by omega)];exact ht⟩,(hb.alloc hb.size _).alloc (by have:=hb.size;simp;omega) _⟩
 by_cases h65:r<65536
 ·have L:Hid (lenOf r=3):=by show lenOf r=3;unfold lenOf;rw[if_neg (by omega),if_neg ha,if_pos h65]
  have hmk:∀w,(Instr.makeSlice 37 (.int .i64 3) (.int .i64 3)).run Tryz.prog w=.ok (.slice (some ⟨w.heap.size,0,none⟩) 3 3) (w.alloc (.cells #[.int .u8 0,.int .u8 0,.int .u8 0] 5)):=fun _=>by kernel_rfl
  go_wp2_with (first
   | (go_at_call 133;refine (len_yes _ _ H.out).mono ?_;rintro e w1 ⟨rfl,hb⟩;rw[L.out]))
  refine wp_loop_rounds 3 ?_;rw[rounds_succ];go_wp2;rw[rounds_succ];go_wp2;rw[rounds_succ]
  go_wp2_with (with_reducible show wpList _ _ _ (⟨_,.convert 37 9 _,_,_,_,_⟩ :: _) _ _;refine wpList_to_string rfl 37 9 5 _ rfl Tryz.underlying37 Tryz.underlying5 Tryz.underlying9 (w1.heap.size+1) _ 3 rfl _ (own_bytes3 (w1.alloc _) _ _ _ (by simp) (Nat.le_refl _) (224+r / 64 / 64) (128+r / 64 % 64) (128+r % 64) (by omega) (by omega) (by omega)) ?_;intro t ht)
  go_ret2;exact⟨⟨t,rfl,by unfold Utf.put;rw[if_neg (show ¬r<128 by omega),if_neg (show ¬r<2048 by omega),if_pos (show r<65536 by omega)];exact ht⟩,(hb.alloc hb.size _).alloc (by have:=hb.size;simp;omega) _⟩
 have L:Hid (lenOf r=4):=by show lenOf r=4;unfold lenOf;rw[if_neg (by omega),if_neg ha,if_neg h65]
 have hmk:∀w,(Instr.makeSlice 37 (.int .i64 4) (.int .i64 4)).run Tryz.prog w=.ok (.slice (some ⟨w.heap.size,0,none⟩) 4 4) (w.alloc (.cells #[.int .u8 0,.int .u8 0,.int .u8 0,.int .u8 0] 5)):=fun _=>by kernel_rfl
 go_wp2_with (first
  | (go_at_call 133;refine (len_yes _ _ H.out).mono ?_;rintro e w1 ⟨rfl,hb⟩;rw[L.out]))
 refine wp_loop_rounds 4 ?_;rw[rounds_succ];go_wp2;rw[rounds_succ];go_wp2;rw[rounds_succ];go_wp2;rw[rounds_succ]
 go_wp2_with (with_reducible show wpList _ _ _ (⟨_,.convert 37 9 _,_,_,_,_⟩ :: _) _ _;refine wpList_to_string rfl 37 9 5 _ rfl Tryz.underlying37 Tryz.underlying5 Tryz.underlying9 (w1.heap.size+1) _ 4 rfl _ (own_bytes4 (w1.alloc _) _ _ _ (by simp) (Nat.le_refl _) (240+r / 64 / 64 / 64) (128+r / 64 / 64 % 64) (128+r / 64 % 64) (128+r % 64) (by omega) (by omega) (by omega) (by omega)) ?_;intro t ht)
 go_ret2;exact⟨⟨t,rfl,by unfold Utf.put;rw[if_neg (show ¬r<128 by omega),if_neg (show ¬r<2048 by omega),if_neg (show ¬r<65536 by omega)];exact ht⟩,(hb.alloc hb.size _).alloc (by have:=hb.size;simp;omega) _⟩

theorem put_yes(r:Int)(w:World)(h:Utf.isScalar r=true):Calls Tryz.prog 93 #[.int .i64 r] w fun e w'=>(∃t:ByteArray,e=.returned (.tuple #[.string t,.bool true])∧StrIs t ((Utf.put r).map bv))∧Below w.heap.size w w':=by
 have h2:0≤r:=by simp[Utf.isScalar] at h;omega
 by_cases h1:r<128
 ·exact put_one r w h2 h1
 exact put_many r w (by omega) h

theorem put_short(r:Int):(Utf.put r).length≤4:=by
 unfold Utf.put;split
 ·simp
 split
 ·simp
 split<;>simp
end
section
open Go.RowKit Go.Shelf

attribute [local go_sem] Oper.semAt_some

abbrev Pc:={ x:Nat×Int // x.2<0∨Utf.isScalar x.2=true }
theorem piece_pc(s:ByteArray)(k:Nat):(Utf.piece (s.data.toList.drop k)).1<0∨Utf.isScalar (Utf.piece (s.data.toList.drop k)).1=true:=by
 rcases Int.lt_or_le (Utf.piece (s.data.toList.drop k)).1 0 with h|h
 ·exact .inl h
 exact .inr (Utf.piece_scalar _ h)

def SameBlk(B:Nat)(W W':World):Prop:=W'.heap[B]?=W.heap[B]?
theorem SameBlk.trans{B:Nat}{X Y Z:World}(h:SameBlk B X Y)(k:SameBlk B Y Z):SameBlk B X Z:=Eq.trans k h
theorem SameBlk.cell{B:Nat}{W W':World}(h:SameBlk B W W'){i:Nat}{v:Value}(hc:W.cell? ⟨B,i,none⟩=some v):W'.cell? ⟨B,i,none⟩=some v :=
 (World.cell?_of_block (w:=W) (w':=W') (a:=⟨B,i,none⟩) h).trans hc
theorem sameBlk_b{w:World}{B:Nat}(hB:B<w.heap.size)(W:World)(l:Nat)(o o':Obj)(hl:w.heap.size≤l)(_:W.heap[l]?=some o)(_:o.isCells=false)(_:o.isWalk=false):SameBlk B W (W.putObj l o') :=
 World.putObj_heap_other (by omega)

theorem piece_at'(s:ByteArray)(k:Nat)(h:k<s.size):1≤(Utf.piece (s.data.toList.drop k)).2∧(Utf.piece (s.data.toList.drop k)).2≤4∧(Utf.piece (s.data.toList.drop k)).2≤((s.size-k:Nat):Int):=by
 have:=Utf.piece_len s[k] (s.data.toList.drop (k+1));rw[←drop_at s k h] at this
 simpa using this

theorem from_at(s:ByteArray)(k:Nat)(h:k<s.size) :
  Utf.from_ k (s.data.toList.drop k)=(k,(Utf.piece (s.data.toList.drop k)).1) :: Utf.from_ (k+(Utf.piece (s.data.toList.drop k)).2.toNat) (s.data.toList.drop (k+(Utf.piece (s.data.toList.drop k)).2.toNat)):=by
 rw[drop_at s k h,Utf.from_cons,←drop_at s k h,List.drop_drop]

theorem pieces1_in(n:Nat)(hn:1≤n)(l Bs:Nat)(s:ByteArray)(hs:s.size≤1000000000)
  (J Jx:List Pc→World→Prop)
  (hY:∀pre x W,J pre W→pre.length<s.size→YieldAt Fence.wide (n-1) Tryz.prog l #[.int .i64 (x.1.1:Int),.int .i64 x.1.2] W fun e W'=>
   (e=.returned (.bool true)∧J (pre++[x]) W'∧SameBlk Bs W W')∨(e=.returned (.bool false)∧Jx (pre++[x]) W'))
  (W:World) (hBs:W.cell? ⟨Bs,0,none⟩=some (.string s)) (h0:J [] W) :
  CallsIn Fence.wide n Tryz.prog 145 #[.func (.yield l) #[] #[],.pointer (some ⟨Bs,0,none⟩)] W fun e W'=>(∃v,e=.returned v)∧
   ((∃ys:List Pc,ys.map (·.1)=Utf.pieces s.data.toList∧J ys W')∨(∃pre:List Pc,(∃rest,pre.map (·.1)++rest=Utf.pieces s.data.toList)∧Jx pre W')):=by
 refine callsIn_of_wp Tryz.func145 rfl trivial ?_ rfl;simp only[Tryz.ntmps145,List.size_toArray,List.length_cons,List.length_nil,Nat.reduceAdd,Nat.reduceSub,Array.replicate_succ,Array.replicate_zero,List.push_toArray,List.append_toArray,List.nil_append,List.cons_append];obtain⟨all,hall⟩:∃all,Utf.pieces s.data.toList=all:=⟨_,rfl⟩;rw[hall];have Hall:=hide hall;clear hall;gi_wp2
 gi_loopw [3] (fun i wr=>∃(k:Nat) (pre:List Pc),k≤s.size∧i=.int .i64 k∧pre.length≤k∧pre.map (·.1)++Utf.from_ k (s.data.toList.drop k)=all∧J pre wr∧SameBlk Bs W wr)
  (fun i _=>s.size-(intOf i).toNat)
 case atStart=>exact⟨0,[],Nat.zero_le _,rfl,Nat.le_refl _,by rw[←Hall.out];rfl,h0,rfl⟩
 case round=>
  obtain⟨k,pre,hk,rfl,hpl,hpre,hJs,hnx⟩:=hrel;have Hpre:=hide hpre;clear hpre;have hcx:wr.cell? ⟨Bs,0,none⟩=some (.string s):=hnx.cell hBs
  by_cases hlt:k<s.size
  ·have hfr:=from_at s k hlt;have hp:=piece_at' s k hlt;have hpc:=piece_pc s k;have HP:=hide (piece_any s k wr (by omega) (by omega) hs);rw[Int.toNat_natCast] at HP;obtain⟨f,hf⟩:∃f,Utf.piece (s.data.toList.drop k)=f:=⟨_,rfl⟩;rw[hf] at hp hfr HP hpc;have Hfr:=hide hfr;clear hf hfr;obtain⟨fn,tmps,assign,body,hy,hR⟩:=hY pre ⟨(k,f.1),hpc⟩ wr hJs (by omega);dsimp only at hy
   gi_wp2_with (refine⟨trivial,?_⟩;gi_at_call 116;refine (callsIn_wide.2 HP.out).mono ?_;rintro e w' ⟨rfl,rfl⟩;unfold pieceV)
   refine hR.mono ?_;rintro e W3 (⟨rfl,hJ3,hk3⟩|⟨rfl,hJx3⟩)
   ·gi_wp2
    go_roundw
    case rel=>exact⟨k+f.2.toNat,pre++[⟨(k,f.1),hpc⟩],by omega,int_eq (by omega),by simp;omega,by rw[←Hpre.out,Hfr.out];simp,hJ3,hnx.trans hk3⟩
    case measure=>simp[intOf];omega
   gi_wp2;refine bodyPost_ret (results_none rfl _ _ _) rfl ?_;exact⟨⟨_,rfl⟩,.inr ⟨_,⟨_,by rw[←Hpre.out,Hfr.out,List.map_append,List.append_assoc];rfl⟩,hJx3⟩⟩
  gi_wp2;go_end0;exact⟨⟨_,rfl⟩,.inl ⟨pre,by rw[←Hpre.out,List.drop_of_length_le (by simp;omega)];simp[Utf.from_nil],hJs⟩⟩

theorem pieces_any(s:ByteArray)(w:World) :
  Calls Tryz.prog 108 #[.string s] w fun e w'=>e=.returned (.func (.func 145) #[] #[.pointer (some ⟨w.heap.size,0,none⟩)])∧w'=w.alloc (.cells #[.string s] 9):=by
 go_enter Tryz.func108,Tryz.ntmps108
 go_wp2;go_ret;exact⟨rfl,rfl⟩

theorem pieces_stops(n:Nat)(hn:1≤n)(Bs:Nat)(s:ByteArray)(hs:s.size≤1000000000)(w:World)(hBs:Bs<w.heap.size)(hc:w.cell? ⟨Bs,0,none⟩=some (.string s)) :
  SeqStopsK Fence.wide n Tryz.prog 145 #[.pointer (some ⟨Bs,0,none⟩)] (fun x:Pc=>#[Value.int .i64 (x.1.1:Int),Value.int .i64 x.1.2]) (SameBlk Bs) (fun ys=>ys.map (·.1)=Utf.pieces s.data.toList)
   (fun pre=>∃rest,pre.map (·.1)++rest=Utf.pieces s.data.toList) s.size w:=fun l J Jx W hW _ _ hY h0=>
 pieces1_in n hn l Bs s hs J Jx hY W ((hW.cell (p:=⟨Bs,0,none⟩) hBs).trans hc) h0
end
end Go.Proofs.YtifiiojchlaghaaGreatDoor
