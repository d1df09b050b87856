/- NFC: a row of numbers within a block; slices.swapRangeCmpFunc, rotateCmpFunc. And more. -/
import Derived.Test.YtifiiojchlaghaaGreatDoorOk22
import Derived.BigRegion
import Derived.BigQuiet
set_option linter.unusedSimpArgs false
set_option maxRecDepth 100000
set_option maxHeartbeats 8000000
set_option linter.unusedVariables false
namespace Go.Proofs.YtifiiojchlaghaaGreatDoor
section
open Go.RowKit Go.WideShapes

structure SRow(w:World)(g off:Nat)(pre post:List Value)(l:List Int):Prop where
 blk:Blk w g 3 (pre++intVs l++post).toArray
 off_:pre.length=off
section
variable {w w':World} {g off:Nat} {pre post:List Value} {l:List Int}
theorem SRow.at_(h:SRow w g off pre post l){j:Nat}{x:Int}(hj:l[j]?=some x):w.cell? ⟨g,off+j,none⟩=some (.int .i64 x):=by
 obtain⟨h1,_⟩:=List.getElem?_eq_some_iff.1 hj;rw[h.blk.cell,List.getElem?_toArray,←h.off_,List.getElem?_append_left (by rw[List.length_append,intVs_len];omega),List.getElem?_append_right (by omega),Nat.add_sub_cancel_left];unfold intVs;rw[List.getElem?_map,hj];rfl
theorem SRow.frozen(h:SRow w g off pre post l)(j:Nat):w.frozen? ⟨g,j,none⟩=false:=h.blk.frozen j
theorem SRow.drew(h:SRow w g off pre post l):SRow w.drew g off pre post l:=⟨h.blk.drew,h.off_⟩
theorem SRow.set_(h:SRow w g off pre post l){j:Nat}(hj:j<l.length)(x:Int):SRow (w.setCell ⟨g,off+j,none⟩ (.int .i64 x)) g off pre post (l.set j x):=by
 refine⟨?_,h.off_⟩;have:=h.blk.set_ (off+j) (.int .i64 x)
 have e:(pre++intVs l++post).toArray.setIfInBounds (off+j) (Value.int .i64 x)=(pre++intVs (l.set j x)++post).toArray:=by
  apply Array.ext'
  rw[Array.toList_setIfInBounds];show (pre++intVs l++post).set (off+j) _=pre++intVs (l.set j x)++post;rw[←h.off_,List.append_assoc,List.append_assoc,List.set_append_right _ _ (by omega),Nat.add_sub_cancel_left,List.set_append_left _ _ (by rw[intVs_len];exact hj)];unfold intVs;rw[List.map_set]
 rwa[e] at this
end
theorem swapped{w:World}{g off:Nat}{pre post:List Value}{P Q R:List Int}{x y:Int}{i j:Nat}(h:SRow w g off pre post (P++x :: (Q++y :: R)))(hi:i=P.length)(hj:j=P.length+1+Q.length) :
  SRow ((w.setCell ⟨g,off+i,none⟩ (.int .i64 y)).setCell ⟨g,off+j,none⟩ (.int .i64 x)) g off pre post (P++y :: (Q++x :: R)):=by
 have h1:=h.set_ (j:=i) (by simp;omega) y;have h2:=h1.set_ (j:=j) (by rw[List.length_set];simp;omega) x;rwa[Nf.swap_at P Q R x y hi hj] at h2
theorem swapped2{w:World}{g off:Nat}{pre post:List Value}{P Q R:List Int}{x y:Int}{i j:Nat}(h:SRow w g off pre post (P++x :: (Q++y :: R)))(hi:i=P.length)(hj:j=P.length+1+Q.length) :
  SRow ((w.setCell ⟨g,off+j,none⟩ (.int .i64 x)).setCell ⟨g,off+i,none⟩ (.int .i64 y)) g off pre post (P++y :: (Q++x :: R)):=by
 have h1:=h.set_ (j:=j) (by simp;omega) x;have h2:=h1.set_ (j:=i) (by rw[List.length_set];simp;omega) y;rw[List.set_comm _ _ (by omega),Nf.swap_at P Q R x y hi hj] at h2;exact h2
theorem take_drop_next{l:List Int}{i:Nat}{x:Int}(h:l[i]?=some x):l.drop i=x :: l.drop (i+1):=by
 obtain⟨h1,h2⟩:=List.getElem?_eq_some_iff.1 h;rw[List.drop_eq_getElem_cons h1,h2]
theorem take_next{l:List Int}{i:Nat}{x:Int}(h:l[i]?=some x):l.take (i+1)=l.take i++[x]:=by
 rw[List.take_add_one,h];rfl
def swapAt(A U M V B:List Int)(i:Nat):List Int:=A++(V.take i++(U.drop i++(M++(U.take i++(V.drop i++B)))))
theorem swapAt_cut(A U M V B:List Int){i:Nat}{x y:Int}(hx:U[i]?=some x)(hy:V[i]?=some y) :
  swapAt A U M V B i=(A++V.take i)++x :: ((U.drop (i+1)++(M++U.take i))++y :: (V.drop (i+1)++B))∧
  swapAt A U M V B (i+1)=(A++V.take i)++y :: ((U.drop (i+1)++(M++U.take i))++x :: (V.drop (i+1)++B)):=by
 unfold swapAt;rw[take_drop_next hx,take_drop_next hy,take_next hx,take_next hy]
 constructor<;>simp[List.append_assoc]
theorem swapRange_any(A U M V B:List Int)(pre post:List Value)(g off cap n a b k:Nat)(fv:Value)(w:World)(h:SRow w g off pre post (A++(U++(M++(V++B)))))(hn:n=A.length+U.length+M.length+V.length+B.length)
  (ha:a=A.length) (hb:b=A.length+U.length+M.length) (hk:k=U.length) (hk2:k=V.length) (hs:n≤1000000000) :
  Calls Tryz.prog 216 #[.slice (some ⟨g,off,none⟩) n cap,.int .i64 a,.int .i64 b,.int .i64 k,fv] w fun e w'=>e=.returned (.tuple #[])∧SRow w' g off pre post (A++(V++(M++(U++B))))∧But g w w':=by
 have HR:=hide h;have Hn:=hide hn;have Ha:=hide ha;have Hb:=hide hb;have Hk:=hide hk;have Hk2:=hide hk2;have hbk:b+k≤n:=by omega
 have hak:a+k≤b:=by omega
 clear h hn ha hb hk hk2
 go_enter Tryz.func216,Tryz.ntmps216
 go_wp2
 go_loopg [10] k (fun gk vk wr=>∃i:Nat,gk=k-i∧i≤k∧vk=.int .i64 (i:Int)∧SRow wr g off pre post (swapAt A U M V B i)∧But g w wr)
 case atStart=>exact⟨0,rfl,by omega,rfl,by unfold swapAt;simpa using HR.out,But.refl _ _⟩
 case round=>
  obtain⟨i,hgk,hi,rfl,hr,hbt⟩:=hrel;have Hg:=hide hgk;have HI:=hide hr;have HB:=hide hbt;clear hgk hr hbt
  by_cases hlt:i<k
  ·obtain⟨x,hx⟩:∃x,U[i]?=some x:=⟨_,List.getElem?_eq_getElem (by have:=Hk.out;omega)⟩;obtain⟨y,hy⟩:∃y,V[i]?=some y:=⟨_,List.getElem?_eq_getElem (by have:=Hk2.out;omega)⟩;obtain⟨e1,e2⟩:=swapAt_cut A U M V B hx hy;have hvl:(V.take i).length=i:=by rw[List.length_take];have:=Hk2.out;omega
   have hul:(U.take i).length=i:=by rw[List.length_take];have:=Hk.out;omega
   have hud:(U.drop (i+1)).length=k-(i+1):=by rw[List.length_drop];have:=Hk.out;omega
   obtain⟨p,hp⟩:∃p,p=a+i:=⟨_,rfl⟩;obtain⟨q,hq⟩:∃q,q=b+i:=⟨_,rfl⟩;have P1:p=(A++V.take i).length:=by rw[List.length_append,hvl,hp,Ha.out]
   have P2:q=(A++V.take i).length+1+(U.drop (i+1)++(M++U.take i)).length:=by
    rw[List.length_append,List.length_append,List.length_append,hvl,hul,hud,hq,Hb.out,←Hk.out];omega
   have hz1:IntKind.i64.wrap ((a:Int)+(i:Int))=(p:Int):=by rw[IntWalk.i64_in _ (by omega)];omega
   have hz2:IntKind.i64.wrap ((b:Int)+(i:Int))=(q:Int):=by rw[IntWalk.i64_in _ (by omega)];omega
   have hpn:p<n:=by omega
   have hqn:q<n:=by omega
   have hrow:=HI.out;rw[e1] at hrow;have c1:wr.cell? ⟨g,off+p,none⟩=some (.int .i64 x):=hrow.at_ (by rw[P1,List.getElem?_append_right (Nat.le_refl _),Nat.sub_self];rfl);have c2:wr.cell? ⟨g,off+q,none⟩=some (.int .i64 y):=hrow.at_ (by rw[P2,List.getElem?_append_right (by omega),show (A++V.take i).length+1+(U.drop (i+1)++(M++U.take i)).length-(A++V.take i).length=(U.drop (i+1)++(M++U.take i)).length+1 by omega,List.getElem?_cons_succ,List.getElem?_append_right (Nat.le_refl _),Nat.sub_self];rfl);have f1:=hrow.frozen (off+p);have f2:=hrow.frozen (off+q);have N1:=hide (swapped hrow P1 P2);rw[←e2] at N1
   have c3:∃u,(wr.setCell ⟨g,off+p,none⟩ (.int .i64 y)).cell? ⟨g,off+q,none⟩=some u:=by
    have:=(hrow.set_ (j:=p) (by rw[P1];simp) y).at_ (j:=q) (x:=y) (by rw[List.getElem?_set_ne (by omega),P2,List.getElem?_append_right (by omega),show (A++V.take i).length+1+(U.drop (i+1)++(M++U.take i)).length-(A++V.take i).length=(U.drop (i+1)++(M++U.take i)).length+1 by omega,List.getElem?_cons_succ,List.getElem?_append_right (Nat.le_refl _),Nat.sub_self];rfl);exact⟨_,this⟩
   obtain⟨u3,c3⟩:=c3;have HBn:=hide (show But g w ((wr.setCell ⟨g,off+p,none⟩ (.int .i64 y)).setCell ⟨g,off+q,none⟩ (.int .i64 x)) from (HB.out.setCell (.inl rfl) _).setCell (.inl rfl) _);clear hx hy e1 e2 hvl hul hud hp hq P1 P2 hrow;go_wp2
   go_region
   go_wp2
   go_roundg (k-(i+1))
   case measure=>have:=Hg.out;omega
   case rel=>exact⟨i+1,rfl,by omega,by first|rfl|go_num,N1.out.drew,HBn.out.drew⟩
  have hik:i=k:=by omega
  subst hik;go_wp2;go_end0;have hr:=HI.out;unfold swapAt at hr;rw[List.take_of_length_le (by have:=Hk2.out;omega),List.take_of_length_le (by have:=Hk.out;omega),List.drop_of_length_le (by have:=Hk.out;omega),List.drop_of_length_le (by have:=Hk2.out;omega)] at hr;exact⟨rfl,by simpa using hr,HB.out⟩
theorem rot_take(A U V B:List Int)(j:Nat):A++V++(U.take j++(U.drop j++B))=A++(V++(U++B)):=by
 rw[←List.append_assoc (U.take j),List.take_append_drop,List.append_assoc]
theorem rotate_any(A U V B:List Int)(pre post:List Value)(g off cap n a m b:Nat)(fv:Value)(w:World)(h:SRow w g off pre post (A++(U++(V++B))))(hn:n=A.length+U.length+V.length+B.length)
  (ha:a=A.length) (hm:m=A.length+U.length) (hb:b=A.length+U.length+V.length) (hU:0<U.length) (hV:0<V.length) (hs:n≤1000000000) :
  Calls Tryz.prog 207 #[.slice (some ⟨g,off,none⟩) n cap,.int .i64 a,.int .i64 m,.int .i64 b,fv] w fun e w'=>e=.returned (.tuple #[])∧SRow w' g off pre post (A++(V++(U++B)))∧But g w w':=by
 have HR:=hide h;have Hn:=hide hn;obtain⟨Lu,hLu⟩:∃k,U.length=k:=⟨_,rfl⟩;obtain⟨Lv,hLv⟩:∃k,V.length=k:=⟨_,rfl⟩;have Hu:=hide hLu;have Hv:=hide hLv;have Ha:=hide ha;have Hm:=hide hm;have hma:IntKind.i64.wrap ((m:Int)-(a:Int))=(Lu:Int):=by rw[IntWalk.i64_in _ (by omega)];omega
 have hbm:IntKind.i64.wrap ((b:Int)-(m:Int))=(Lv:Int):=by rw[IntWalk.i64_in _ (by omega)];omega
 have hmn:m+Lv≤n:=by omega
 have hmu:Lu≤m:=by omega
 have hU':0<Lu:=by omega
 have hV':0<Lv:=by omega
 have hbn:b≤n:=by omega
 clear h hn ha hm hb hU hV hLu hLv
 go_enter Tryz.func207,Tryz.ntmps207
 go_wp2
 go_loopg [10,11] (Lu+Lv) (fun gk vi vj wr=>∃(i j:Nat) (A1 U1 V1 B1:List Int),gk=i+j∧vi=.int .i64 (i:Int)∧vj=.int .i64 (j:Int)∧0<i∧0<j∧i≤Lu∧j≤Lv∧SRow wr g off pre post (A1++(U1++(V1++B1)))∧U1.length=i∧V1.length=j∧A1.length+i=m∧(A1++U1++V1++B1).length=n∧A1++(V1++(U1++B1))=A++(V++(U++B))∧But g w wr)
 case atStart=>exact⟨Lu,Lv,A,U,V,B,rfl,rfl,rfl,hU',hV',Nat.le_refl _,Nat.le_refl _,HR.out,Hu.out,Hv.out,by have:=Hm.out;have:=Hu.out;omega,by have:=Hn.out;simp only[List.length_append];omega,rfl,But.refl _ _⟩
 case round=>
  obtain⟨i,j,A1,U1,V1,B1,hgk,rfl,rfl,i0,j0,iu,jv,hr,hu1,hv1,ha1,hn1,he,hbt⟩:=hrel;have Hg:=hide hgk;have HI:=hide hr;have HB:=hide hbt;have HE:=hide he;have Hu1:=hide hu1;have Hv1:=hide hv1;have Hn1:=hide (show n=A1.length+U1.length+V1.length+B1.length by rw[←hn1];simp only[List.length_append]);obtain⟨al,hal⟩:∃k,A1.length=k:=⟨_,rfl⟩;rw[hal] at ha1;have Hal:=hide hal;have Ham:=hide ha1;have z1:IntKind.i64.wrap ((m:Int)-(i:Int))=(al:Int):=by rw[IntWalk.i64_in _ (by omega)];omega
  have alm:al≤m:=by omega
  clear hgk hr hbt he hu1 hv1 hn1 hal ha1
  by_cases hij:i=j
  ·subst hij;have HS:=hide (swapRange_any A1 U1 [] V1 B1 pre post g off cap n al m i fv wr (by simpa using HI.out) (by have:=Hn1.out;simpa using this) Hal.out.symm (by have:=Hal.out;have:=Hu1.out;have:=Ham.out;simp;omega) Hu1.out.symm Hv1.out.symm hs)
   go_wp2_with fail
   refine HS.out.mono ?_;rintro e w2 ⟨rfl,hr2,hb2⟩;have HR2:=hide hr2;have HB2:=hide hb2;clear hr2 hb2;go_wp2;go_end0;refine⟨rfl,?_,HB.out.trans HB2.out⟩;rw[←HE.out]
   simpa using HR2.out
  have hijz:¬(i:Int)=(j:Int):=by omega
  by_cases hgt:j<i
  ·have hgtz:(j:Int)<(i:Int):=by omega
   have z2:IntKind.i64.wrap ((i:Int)-(j:Int))=((i-j:Nat):Int):=by rw[IntWalk.i64_in _ (by omega)];omega
   have hu2:U1=U1.take j++U1.drop j:=(List.take_append_drop j U1).symm;have hlt:(U1.take j).length=j:=by rw[List.length_take];have:=Hu1.out;omega
   have hld:(U1.drop j).length=i-j:=by rw[List.length_drop];have:=Hu1.out;omega
   have HS:=hide (swapRange_any A1 (U1.take j) (U1.drop j) V1 B1 pre post g off cap n al m j fv wr (by rw[←List.append_assoc (U1.take j),←hu2];exact HI.out) (by have:=Hn1.out;have:=Hu1.out;omega) Hal.out.symm (by have:=Hal.out;have:=Hu1.out;have:=Ham.out;omega) hlt.symm Hv1.out.symm hs);have HE2:=hide (show A1++V1++(U1.take j++(U1.drop j++B1))=A++(V++(U++B)) from (rot_take A1 U1 V1 B1 j).trans HE.out);have Hlt:=hide hlt;have Hld:=hide hld;obtain⟨d,hd⟩:∃d,i-j=d:=⟨_,rfl⟩;rw[hd] at z2 Hld;have Hd:=hide hd;clear hu2 hlt hld hd
   go_wp2_with fail
   refine HS.out.mono ?_;rintro e w2 ⟨rfl,hr2,hb2⟩;have HR2:=hide hr2;have HB2:=hide hb2;clear hr2 hb2;go_wp2
   go_roundg (d+j)
   case measure=>have:=Hg.out;have:=Hd.out;omega
   case rel=>
    refine⟨d,j,A1++V1,U1.drop j,U1.take j,B1,rfl,by first|rfl|go_num,by first|rfl|go_num,by have:=Hd.out;omega,j0,by have:=Hd.out;omega,jv,by simpa only [List.append_assoc] using HR2.out,Hld.out,Hlt.out,?_,?_,HE2.out,HB.out.trans HB2.out⟩
    ·rw[List.length_append];have:=Hal.out;have:=Hv1.out;have:=Ham.out;have:=Hd.out;omega
    have:=Hn1.out;have:=Hu1.out;have:=Hlt.out;have:=Hld.out;have:=Hd.out;simp only[List.length_append];omega
  have hgtz:¬(j:Int)<(i:Int):=by omega
  have z2:IntKind.i64.wrap ((m:Int)+(j:Int))=((m+j:Nat):Int):=by rw[IntWalk.i64_in _ (by omega)];omega
  have z3:IntKind.i64.wrap (((m+j:Nat):Int)-(i:Int))=((m+j-i:Nat):Int):=by rw[IntWalk.i64_in _ (by omega)];omega
  have z4:IntKind.i64.wrap ((j:Int)-(i:Int))=((j-i:Nat):Int):=by rw[IntWalk.i64_in _ (by omega)];omega
  have hv2:V1=V1.take (j-i)++V1.drop (j-i):=(List.take_append_drop (j-i) V1).symm;have hlt:(V1.take (j-i)).length=j-i:=by rw[List.length_take];have:=Hv1.out;omega
  have hld:(V1.drop (j-i)).length=i:=by rw[List.length_drop];have:=Hv1.out;omega
  have HS:=hide (swapRange_any A1 U1 (V1.take (j-i)) (V1.drop (j-i)) B1 pre post g off cap n al (m+j-i) i fv wr (by rw[←List.append_assoc (V1.take (j-i)),←hv2];exact HI.out) (by have:=Hn1.out;have:=Hv1.out;omega) Hal.out.symm (by have:=Hal.out;have:=Hu1.out;have:=Ham.out;omega) Hu1.out.symm hld.symm hs);have HE2:=hide (show A1++(V1.take (j-i)++(V1.drop (j-i)++(U1++B1)))=A++(V++(U++B)) by rw[←HE.out,←List.append_assoc (V1.take (j-i)),←hv2]);have Hlt:=hide hlt;have Hld:=hide hld;obtain⟨d,hd⟩:∃d,j-i=d:=⟨_,rfl⟩;rw[hd] at z4 Hlt HS Hld HE2;have Hd:=hide hd;obtain⟨s1,hs1⟩:∃d,m+j=d:=⟨_,rfl⟩;rw[hs1] at z2 z3 HS;obtain⟨s2,hs2⟩:∃d,s1-i=d:=⟨_,rfl⟩;rw[hs2] at z3 HS;clear hv2 hlt hld hd hs1 hs2
  go_wp2_with fail
  refine HS.out.mono ?_;rintro e w2 ⟨rfl,hr2,hb2⟩;have HR2:=hide hr2;have HB2:=hide hb2;clear hr2 hb2;go_wp2
  go_roundg (d+i)
  case measure=>have:=Hg.out;have:=Hd.out;omega
  case rel=>
   refine⟨i,d,A1,V1.drop d,V1.take d,U1++B1,by omega,by first|rfl|go_num,by first|rfl|go_num,i0,by have:=Hd.out;omega,iu,by have:=Hd.out;omega,HR2.out,Hld.out,Hlt.out,Ham.out▸(by have:=Hal.out;omega),?_,HE2.out,HB.out.trans HB2.out⟩;have:=Hn1.out;have:=Hv1.out;have:=Hlt.out;have:=Hld.out;have:=Hd.out;simp only[List.length_append];omega
end
section
open Go.RowKit Go.WideShapes

namespace Nf
theorem sortR_snoc(l:List Int)(x:Int):sortR (l++[x])=ins x (sortR l):=by
 unfold sortR;rw[List.foldl_append];rfl
theorem ins_done(x:Int):∀(S1 S2:List Int),(∀y∈S1,cls y≤cls x)→(∀y∈S2,cls x<cls y)→ins x (S1++S2)=S1++x :: S2
 | [],[],_,_=>rfl
 | [],y :: S2,_,h=>by
  rw[List.nil_append,ins,if_pos (h y (List.mem_cons_self ..))];rfl
 | y :: S1,S2,h,k=>by
  rw[List.cons_append,ins,if_neg (by have:=h y (List.mem_cons_self ..);omega),ins_done x S1 S2 (fun z hz=>h z (List.mem_cons_of_mem _ hz)) k];rfl
theorem sortR_len(l:List Int):(sortR l).length=l.length:=(sortR_same l).length
theorem sortR_one(l:List Int)(h:l.length≤1):sortR l=l:=by
 match l,h with
 | [],_=>rfl
 | [x],_=>rfl
end Nf
theorem snoc_of{l:List Int}(h:0<l.length):∃m y,l=m++[y]:=by
 refine⟨l.dropLast,l.getLast (by intro e;subst e;simp at h),?_⟩;exact (List.dropLast_concat_getLast _).symm
theorem exch{w:World}{g off:Nat}{pre post:List Value}{P Q R:List Int}{x y:Int}{i j:Nat}(h:SRow w g off pre post (P++x :: (Q++y :: R)))(hi:i=P.length)(hj:j=P.length+1+Q.length) :
  w.cell? ⟨g,off+i,none⟩=some (.int .i64 x)∧w.cell? ⟨g,off+j,none⟩=some (.int .i64 y)∧(∃u,(w.setCell ⟨g,off+i,none⟩ (.int .i64 y)).cell? ⟨g,off+j,none⟩=some u)∧∃u,(w.setCell ⟨g,off+j,none⟩ (.int .i64 x)).cell? ⟨g,off+i,none⟩=some u:=by
 have e1:(P++x :: (Q++y :: R))[i]?=some x:=by rw[hi,List.getElem?_append_right (Nat.le_refl _),Nat.sub_self];rfl
 have e2:(P++x :: (Q++y :: R))[j]?=some y:=by
  rw[hj,List.getElem?_append_right (by omega),show P.length+1+Q.length-P.length=Q.length+1 by omega,List.getElem?_cons_succ,List.getElem?_append_right (Nat.le_refl _),Nat.sub_self];rfl
 have hl:j<(P++x :: (Q++y :: R)).length:=(List.getElem?_eq_some_iff.1 e2).1;have hl1:i<(P++x :: (Q++y :: R)).length:=(List.getElem?_eq_some_iff.1 e1).1;exact⟨h.at_ e1,h.at_ e2,⟨_,(h.set_ hl1 y).at_ (by rw[List.getElem?_set_ne (by omega)];exact e2)⟩,⟨_,(h.set_ hl x).at_ (by rw[List.getElem?_set_ne (by omega)];exact e1)⟩⟩
theorem SRow.drewN{w:World}{g off:Nat}{pre post:List Value}{l:List Int}(h:SRow w g off pre post l)(n:Nat):SRow (w.drewN n) g off pre post l:=⟨h.blk,h.off_⟩
theorem SRow.as{w:World}{g off:Nat}{pre post:List Value}{l m:List Int}(h:SRow w g off pre post l)(e:l=m):SRow w g off pre post m:=e▸h
theorem insertion_any(A l B:List Int)(pre post:List Value)(g off cap n a b:Nat)(w:World)(h:SRow w g off pre post (A++(l++B)))(hn:n=A.length+l.length+B.length)
  (ha:a=A.length) (hb:b=A.length+l.length) (hs:n≤1000000000) :
  Calls Tryz.prog 199 #[.slice (some ⟨g,off,none⟩) n cap,.int .i64 a,.int .i64 b,.func (.func 155) #[] #[]] w fun e w'=>e=.returned (.tuple #[])∧SRow w' g off pre post (A++(Nf.sortR l++B))∧But g w w':=by
 have HR:=hide h;have Hn:=hide hn;have Ha:=hide ha;have Hb:=hide hb;have hbn:b≤n:=by omega
 have hab:a≤b:=by omega
 have HC:=hide (fun x y W=>byClass_any x y W);have z0:IntKind.i64.wrap ((a:Int)+1)=((a+1:Nat):Int):=by rw[IntWalk.i64_in _ (by omega)];omega
 clear h hn ha hb
 go_enter Tryz.func199,Tryz.ntmps199
 go_wp2
 go_loopg [8] (b-a) (fun gk vk wr=>∃(t i:Nat),gk=b-a-t∧i=a+1+t∧(t+1≤b-a∨t=0)∧vk=.int .i64 (i:Int)∧SRow wr g off pre post (A++(Nf.sortR (l.take (t+1))++(l.drop (t+1)++B)))∧But g w wr)
 case atStart=>exact⟨0,a+1,rfl,rfl,.inr rfl,by first|rfl|go_num,by rw[Nf.sortR_one _ (by rw[List.length_take];omega),←List.append_assoc (l.take _),List.take_append_drop];exact HR.out,But.refl _ _⟩
 case round=>
  obtain⟨t,i,hgk,hi,ht,rfl,hr,hbt⟩:=hrel;have Hg:=hide hgk;have HI:=hide hr;have HB:=hide hbt;have Hi:=hide hi;clear hgk hr hbt hi
  by_cases hlt:i<b
  ·obtain⟨x,hx⟩:∃x,l[t+1]?=some x:=⟨_,List.getElem?_eq_getElem (by have:=Hb.out;have:=Ha.out;have:=Hi.out;omega)⟩;have HS:=hide (show Nf.sortR (l.take (t+2))=Nf.ins x (Nf.sortR (l.take (t+1))) by rw[take_next hx,Nf.sortR_snoc]);have hup:=Nf.sortR_up (l.take (t+1));have hsl:(Nf.sortR (l.take (t+1))).length=t+1:=by rw[Nf.sortR_len,List.length_take];have:=Hb.out;have:=Ha.out;have:=Hi.out;omega
   have hr:=HI.out;rw[take_drop_next hx] at hr;generalize Nf.sortR (l.take (t+1))=S at HS hup hsl hr;have HU:=hide hup;have HL:=hide hsl;have HI2:=hide hr;clear HI hx hup hsl hr;go_wp2
   go_loopg [9] (t+1) (fun gj vj wj=>∃(S1 S2:List Int) (j:Nat),gj=S1.length∧S=S1++S2∧j=a+S1.length∧vj=.int .i64 (j:Int)∧(∀y∈S2,Nf.cls x<Nf.cls y)∧SRow wj g off pre post (A++(S1++x :: (S2++(l.drop (t+1+1)++B))))∧But g w wj)
   case atStart=>exact⟨S,[],i,HL.out.symm,by simp,by have:=HL.out;have:=Hi.out;omega,rfl,by simp,by simpa using HI2.out,HB.out⟩
   case round=>
    obtain⟨S1,S2,j,hgj,hS,hj,rfl,h2,hr,hbt⟩:=hrel;have Hgj:=hide hgj;have HJ:=hide hj;have H2:=hide h2;have HI3:=hide hr;have HB3:=hide hbt;have HS12:=hide hS;have hjl:j<n:=by have:=Hb.out;have:=Ha.out;have:=Hi.out;have:=HL.out;have:=congrArg List.length hS;rw[List.length_append] at this;omega
    clear hgj hj h2 hr hbt hS HB HI2
    by_cases hja:a<j
    ·obtain⟨S1',y,e1⟩:=snoc_of (l:=S1) (by have:=HJ.out;omega);subst e1;obtain⟨jp,hjp⟩:∃jp,jp=a+S1'.length:=⟨_,rfl⟩;have hj1:j=jp+1:=by rw[HJ.out,hjp,List.length_append,List.length_singleton];omega
     have HJ1:=hide hj1;have HJp:=hide hjp;have z1:IntKind.i64.wrap ((j:Int)-1)=(jp:Int):=by rw[IntWalk.i64_in _ (by omega)];omega
     have hrow:=HI3.out;have e3:A++(S1'++[y]++x :: (S2++(l.drop (t+1+1)++B)))=(A++S1')++y :: ([]++x :: (S2++(l.drop (t+1+1)++B))):=by simp
     rw[e3] at hrow;have p1:jp=(A++S1').length:=by rw[List.length_append,hjp,Ha.out]
     have p2:j=(A++S1').length+1+([]:List Int).length:=by rw[←p1,hj1];simp
     have c1:wr.cell? ⟨g,off+jp,none⟩=some (.int .i64 y):=hrow.at_ (by rw[p1,List.getElem?_append_right (Nat.le_refl _),Nat.sub_self];rfl);have c2:wr.cell? ⟨g,off+j,none⟩=some (.int .i64 x):=hrow.at_ (by rw[p2,List.getElem?_append_right (by omega),show (A++S1').length+1+([]:List Int).length-(A++S1').length=1 by simp];rfl);have f1:=hrow.frozen (off+jp);have f2:=hrow.frozen (off+j);have HE3:=hide e3;have HP1:=hide p1;have HP2:=hide p2;have hjpl:jp<n:=by omega
     have hd1:decide ((j:Int)>(a:Int))=true:=decide_eq_true (by omega);have hd2:(a:Int)<(j:Int):=by omega
     clear hjp hj1 p1 p2 e3 hrow
     by_cases hc:Nf.cls x-Nf.cls y<0
     ·obtain⟨q,hq⟩:∃q,Nf.cls x-Nf.cls y=q:=⟨_,rfl⟩;have HC1:=hide (fun W=>HC.out x y W);rw[hq] at hc HC1;have hd3:decide (q<0)=true:=decide_eq_true hc;have Hq:=hide hq;clear hq
      go_wp2_with fail
      go_quiet ((go_at_call 155;refine Calls.quiet_of_same (HC1.out _)))
      clear c1 c2 f1 f2;have HBW:=hide (show But g w (wr.drewN nq) from⟨HB3.out.os,HB3.out.tape,HB3.out.output,HB3.out.size,HB3.out.block⟩);have hrow:=(HI3.out.drewN nq).as HE3.out;generalize wr.drewN nq=W at hrow HBW ⊢;obtain⟨c1,c2,_,u3,c3⟩:=exch hrow HP1.out HP2.out;have f1:=hrow.frozen (off+jp);have f2:=hrow.frozen (off+j);have N1:=hide (swapped2 hrow HP1.out HP2.out);clear hrow;go_wp2
      go_region
      go_wp2
      go_roundg S1'.length
      case measure=>have:=Hgj.out;rw[this,List.length_append,List.length_singleton];omega
      case rel=>
       refine⟨S1',y :: S2,jp,rfl,by rw[HS12.out];simp,HJp.out,by first|rfl|go_num,?_,(N1.out.drew).as (by simp),((HBW.out.setCell (.inl rfl) _).setCell (.inl rfl) _).drew⟩;intro z hz
       rcases List.mem_cons.1 hz with rfl|hz
       ·have:=Hq.out;omega
       exact H2.out z hz
     obtain⟨q,hq⟩:∃q,Nf.cls x-Nf.cls y=q:=⟨_,rfl⟩;have HC1:=hide (fun W=>HC.out x y W);rw[hq] at hc HC1;have hd3:decide (q<0)=false:=decide_eq_false hc;have Hq:=hide hq;have zi:IntKind.i64.wrap ((i:Int)+1)=((i+1:Nat):Int):=by rw[IntWalk.i64_in _ (by omega)];omega
     clear hq
     go_wp2_with fail
     go_quiet ((go_at_call 155;refine Calls.quiet_of_same (HC1.out _)))
     have HBW:=hide (show But g w (wr.drewN nq) from⟨HB3.out.os,HB3.out.tape,HB3.out.output,HB3.out.size,HB3.out.block⟩);have HRW:=hide (HI3.out.drewN nq);generalize wr.drewN nq=W at HRW HBW ⊢;clear c1 c2 f1 f2;go_wp2
     go_roundg (b-a-(t+1))
     case measure=>have:=Hg.out;have:=Hi.out;omega
     case rel=>
      refine⟨t+1,i+1,rfl,by have:=Hi.out;omega,.inl (by have:=Hi.out;omega),by first|rfl|go_num,HRW.out.as ?_,HBW.out⟩;rw[HS.out,HS12.out,Nf.ins_done x (S1'++[y]) S2 ?_ H2.out]
      ·simp
      intro z hz;have hu:=HU.out;rw[HS12.out] at hu;have h3:=hu.left
      rcases List.mem_append.1 hz with hz|hz
      ·have:=h3.cross hz (List.mem_singleton.2 rfl);have:=Hq.out;omega
      rw[List.mem_singleton] at hz;subst hz;have:=Hq.out;omega
    have hja2:j=a:=by have:=HJ.out;omega
    have hd1:decide ((j:Int)>(a:Int))=false:=decide_eq_false (by omega);have hd2:¬(a:Int)<(j:Int):=by omega
    have zi:IntKind.i64.wrap ((i:Int)+1)=((i+1:Nat):Int):=by rw[IntWalk.i64_in _ (by omega)];omega
    have HJA:=hide hja2;clear hja2
    go_wp2_with fail
    go_quiet (fail)
    have HBW:=hide (show But g w (wr.drewN nq) from⟨HB3.out.os,HB3.out.tape,HB3.out.output,HB3.out.size,HB3.out.block⟩);have HRW:=hide (HI3.out.drewN nq);generalize wr.drewN nq=W at HRW HBW ⊢;go_wp2
    go_roundg (b-a-(t+1))
    case measure=>have:=Hg.out;have:=Hi.out;omega
    case rel=>
     refine⟨t+1,i+1,rfl,by have:=Hi.out;omega,.inl (by have:=Hi.out;omega),by first|rfl|go_num,HRW.out.as ?_,HBW.out⟩;have h0:S1=[]:=List.eq_nil_of_length_eq_zero (by have:=HJ.out;have:=HJA.out;omega);subst h0;rw[HS.out,HS12.out,Nf.ins_done x [] S2 (by simp) H2.out];simp
  go_wp2;go_end0;have hr:=HI.out;have hl:l.length≤t+1:=by have:=Hb.out;have:=Ha.out;have:=Hi.out;omega
  rw[List.take_of_length_le hl,List.drop_of_length_le hl] at hr;exact⟨rfl,by simpa using hr,HB.out⟩
end
section
open Go.RowKit Go.WideShapes

namespace Nf
theorem up_take{v:List Int}{d:Nat}{y:Int}(h:Up v)(hy:v[d]?=some y):∀z∈v.take (d+1),cls z≤cls y:=fun z hz=>by
 obtain⟨i,hi,e⟩:=List.mem_take_iff_getElem.1 hz;exact h.at_ (List.getElem?_eq_some_iff.2 ⟨_,e⟩) hy (by omega)
theorem up_drop{v:List Int}{d:Nat}{y:Int}(h:Up v)(hy:v[d]?=some y):∀z∈v.drop d,cls y≤cls z:=fun z hz=>by
 obtain⟨i,hi,e⟩:=List.mem_drop_iff_getElem.1 hz;exact h.at_ hy (List.getElem?_eq_some_iff.2 ⟨_,e⟩) (by omega)
theorem sortR_first{x:Int}{v:List Int}{k:Nat}(h:Up v)(h1:∀y∈v.take k,cls y<cls x)(h2:∀y∈v.drop k,cls x≤cls y):v.take k++x :: v.drop k=sortR (x :: v):=by
 refine sortR_is ?_ ?_
 ·have hv:=h;rw[←List.take_append_drop k v] at hv;refine Up.app hv.left ?_ ?_
  ·unfold Up;rw[List.pairwise_cons];exact⟨h2,hv.right⟩
  intro a ha b hb
  rcases List.mem_cons.1 hb with rfl|hb
  ·exact Int.le_of_lt (h1 a ha)
  exact hv.cross ha hb
 have e:x :: v=([x]++v.take k)++v.drop k:=by rw[List.append_assoc,List.take_append_drop];rfl
 have e2:v.take k++x :: v.drop k=(v.take k++[x])++v.drop k:=by simp
 rw[e,e2];refine Same.app (same_rot ?_) (Same.refl _);intro a ha b hb;rw[List.mem_singleton] at ha;subst ha;have:=h1 b hb;omega
end Nf
theorem symMerge1_any(A v B:List Int)(x:Int)(pre post:List Value)(g off cap n a m b:Nat)(w:World)(h:SRow w g off pre post (A++x :: (v++B)))(hn:n=A.length+1+v.length+B.length)
  (ha:a=A.length) (hm:m=A.length+1) (hb:b=A.length+1+v.length) (hv:0<v.length) (hup:Nf.Up v) (hs:n≤1000000000) :
  Calls Tryz.prog 200 #[.slice (some ⟨g,off,none⟩) n cap,.int .i64 a,.int .i64 m,.int .i64 b,.func (.func 155) #[] #[]] w fun e w'=>e=.returned (.tuple #[])∧SRow w' g off pre post (A++(Nf.sortR (x :: v)++B))∧But g w w':=by
 have HR:=hide h;have Hn:=hide hn;have Ha:=hide ha;have Hm:=hide hm;have Hb:=hide hb;have HU:=hide hup;have hbn:b≤n:=by omega
 have hmb:m<b:=by omega
 have han:a<n:=by omega
 have HC:=hide (fun x y W=>byClass_any x y W);have z0:IntKind.i64.wrap ((m:Int)-(a:Int))=1:=by rw[IntWalk.i64_in _ (by omega)];omega
 have c0:w.cell? ⟨g,off+a,none⟩=some (.int .i64 x):=h.at_ (by rw[ha,List.getElem?_append_right (Nat.le_refl _),Nat.sub_self];rfl);clear h hn ha hm hb hv hup
 go_enter Tryz.func200,Tryz.ntmps200
 go_wp2
 go_loopg [10,11] (b-m) (fun gk vi vj wr=>∃(i j:Nat),gk=j-i∧m≤i∧i≤j∧j≤b∧vi=.int .i64 (i:Int)∧vj=.int .i64 (j:Int)∧(∀y∈v.take (i-m),Nf.cls y<Nf.cls x)∧(∀y∈v.drop (j-m),Nf.cls x≤Nf.cls y)∧SRow wr g off pre post (A++x :: (v++B))∧But g w wr)
 case atStart=>exact⟨m,b,rfl,Nat.le_refl _,by omega,Nat.le_refl _,rfl,rfl,by simp,by rw[List.drop_of_length_le (by have:=Hb.out;have:=Hm.out;omega)];simp,HR.out,But.refl _ _⟩
 case round=>
  obtain⟨i,j,hgk,hmi,hij,hjb,rfl,rfl,h1,h2,hr,hbt⟩:=hrel;have Hg:=hide hgk;have HI:=hide hr;have HB:=hide hbt;have H1:=hide h1;have H2:=hide h2;clear hgk hr hbt h1 h2
  by_cases hlt:i<j
  ·have hsum:IntKind.i64.wrap ((i:Int)+(j:Int))=((i+j:Nat):Int):=by rw[IntWalk.i64_in _ (by omega)];omega
   obtain⟨d,hd⟩:∃d,(i+j) / 2=d:=⟨_,rfl⟩;have hdz:((i:Int)+(j:Int)) / 2=(d:Int):=by omega
   have hid:i≤d:=by omega
   have hdj:d<j:=by omega
   have hdn:d<n:=by omega
   clear hd hsum;obtain⟨y,hy⟩:∃y,v[d-m]?=some y:=⟨_,List.getElem?_eq_getElem (by have:=Hm.out;have:=Hb.out;omega)⟩;have c1:wr.cell? ⟨g,off+d,none⟩=some (.int .i64 y):=HI.out.at_ (by rw[List.getElem?_append_right (by have:=Hm.out;omega),show d-A.length=(d-m)+1 by have:=Hm.out;omega,List.getElem?_cons_succ,List.getElem?_append_left (List.getElem?_eq_some_iff.1 hy).1];exact hy);have c2:wr.cell? ⟨g,off+a,none⟩=some (.int .i64 x):=HI.out.at_ (by rw[Ha.out,List.getElem?_append_right (Nat.le_refl _),Nat.sub_self];rfl);obtain⟨q,hq⟩:∃q,Nf.cls y-Nf.cls x=q:=⟨_,rfl⟩;have HC1:=hide (fun W=>HC.out y x W);rw[hq] at HC1;have Hq:=hide hq;have Hy:=hide hy;clear hq hy
   by_cases hc:q<0
   ·have hd3:decide (q<0)=true:=decide_eq_true hc;have zd:IntKind.i64.wrap ((d:Int)+1)=((d+1:Nat):Int):=by rw[IntWalk.i64_in _ (by omega)];omega
    go_wp2_with fail
    go_quiet ((go_at_call 155;refine Calls.quiet_of_same (HC1.out _)))
    have HBW:=hide (show But g w (wr.drewN nq) from⟨HB.out.os,HB.out.tape,HB.out.output,HB.out.size,HB.out.block⟩);have HRW:=hide (HI.out.drewN nq);generalize wr.drewN nq=W at HRW HBW ⊢;clear c1 c2;go_wp2
    go_roundg (j-(d+1))
    case measure=>have:=Hg.out;omega
    case rel=>
     refine⟨d+1,j,rfl,by omega,by omega,hjb,by first|rfl|go_num,rfl,?_,H2.out,HRW.out,HBW.out⟩;intro z hz;rw[show d+1-m=(d-m)+1 by omega] at hz;have:=Nf.up_take HU.out Hy.out z hz;have:=Hq.out;omega
   have hd3:decide (q<0)=false:=decide_eq_false hc
   go_wp2_with fail
   go_quiet ((go_at_call 155;refine Calls.quiet_of_same (HC1.out _)))
   have HBW:=hide (show But g w (wr.drewN nq) from⟨HB.out.os,HB.out.tape,HB.out.output,HB.out.size,HB.out.block⟩);have HRW:=hide (HI.out.drewN nq);generalize wr.drewN nq=W at HRW HBW ⊢;clear c1 c2;go_wp2
   go_roundg (d-i)
   case measure=>have:=Hg.out;omega
   case rel=>
    refine⟨i,d,rfl,by omega,by omega,by omega,rfl,rfl,H1.out,?_,HRW.out,HBW.out⟩;intro z hz;have:=Nf.up_drop HU.out Hy.out z hz;have:=Hq.out;omega
  have hjj:j=i:=by omega
  subst hjj;have HF:=hide (Nf.sortR_first HU.out H1.out H2.out);obtain⟨k,hk⟩:∃k,j-m=k:=⟨_,rfl⟩;rw[hk] at HF;have Hk:=hide hk;have Hvl:=hide (show (v.take k).length=k by rw[List.length_take];have:=Hm.out;have:=Hb.out;omega);have HR2:=hide (HI.out.as (show A++x :: (v++B)=A++(x :: (v.take k++(v.drop k++B))) by rw[←List.append_assoc (v.take k),List.take_append_drop]));obtain⟨e,he⟩:∃e,a+k=e:=⟨_,rfl⟩;have z1:IntKind.i64.wrap ((j:Int)-1)=(e:Int):=by rw[IntWalk.i64_in _ (by omega)];have:=Hm.out;have:=Ha.out;omega
  have He:=hide he;have hen:e<n:=by have:=Hm.out;have:=Ha.out;omega
  clear hk he HI H1 H2;generalize v.take k=v1 at HF Hvl HR2;generalize v.drop k=v2 at HF HR2;go_wp2
  go_loopg [13] k (fun gk vk wj=>∃(t i:Nat),gk=k-t∧t≤k∧i=a+t∧vk=.int .i64 (i:Int)∧SRow wj g off pre post (A++(v1.take t++x :: (v1.drop t++(v2++B))))∧But g w wj)
  case atStart=>exact⟨0,a,rfl,by omega,rfl,rfl,by simpa using HR2.out,HB.out⟩
  case round=>
   obtain⟨t,i,hgt,htk,hi,rfl,hr,hbt⟩:=hrel;have Hgt:=hide hgt;have HI3:=hide hr;have HB3:=hide hbt;have Hi:=hide hi;clear hgt hr hbt hi
   by_cases hlt2:i<e
   ·obtain⟨y,hy⟩:∃y,v1[t]?=some y:=⟨_,List.getElem?_eq_getElem (by have:=Hvl.out;have:=He.out;have:=Hi.out;omega)⟩;have e3:A++(v1.take t++x :: (v1.drop t++(v2++B)))=(A++v1.take t)++x :: ([]++y :: (v1.drop (t+1)++(v2++B))):=by rw[take_drop_next hy];simp
    have e4:(A++v1.take t)++y :: ([]++x :: (v1.drop (t+1)++(v2++B)))=A++(v1.take (t+1)++x :: (v1.drop (t+1)++(v2++B))):=by rw[take_next hy];simp
    have hrow:=HI3.out.as e3;have p1:i=(A++v1.take t).length:=by rw[List.length_append,List.length_take];have:=Hvl.out;have:=Ha.out;have:=Hi.out;omega
    have p2:i+1=(A++v1.take t).length+1+([]:List Int).length:=by rw[←p1];rfl
    obtain⟨c1,c2,⟨u3,c3⟩,_⟩:=exch hrow p1 p2;have f1:=hrow.frozen (off+i);have f2:=hrow.frozen (off+(i+1));have N1:=hide ((swapped hrow p1 p2).as e4);have HBn:=hide ((HB3.out.setCell (p:=⟨g,off+i,none⟩) (.inl rfl) (.int .i64 y)).setCell (p:=⟨g,off+(i+1),none⟩) (.inl rfl) (.int .i64 x));have zi:IntKind.i64.wrap ((i:Int)+1)=((i+1:Nat):Int):=by rw[IntWalk.i64_in _ (by omega)];omega
    obtain⟨i1,hi1⟩:∃i1,i+1=i1:=⟨_,rfl⟩;have hi1n:i1<n:=by omega
    rw[hi1] at c2 c3 f2 N1 HBn zi;have Hi1:=hide hi1;clear hy e3 e4 p1 p2 hrow hi1;go_wp2
    go_region
    go_wp2
    go_roundg (k-(t+1))
    case measure=>have:=Hgt.out;have:=Hi.out;have:=He.out;omega
    case rel=>exact⟨t+1,i1,rfl,by have:=Hi.out;have:=He.out;omega,by have:=Hi1.out;have:=Hi.out;omega,by first|rfl|go_num,N1.out.drew,HBn.out.drew⟩
   go_wp2;(try simp only[Exit.inBlock,Exit.then]);refine bodyPost_ret (results_none rfl _ _ _) rfl ?_;have htk2:t=k:=by have:=Hi.out;have:=He.out;omega
   subst htk2;have hr:=HI3.out;rw[List.take_of_length_le (by rw[Hvl.out];exact Nat.le_refl _),List.drop_of_length_le (by rw[Hvl.out];exact Nat.le_refl _)] at hr;exact⟨rfl,hr.as (by rw[←HF.out];simp),HB3.out⟩
end
section
open Go.RowKit Go.WideShapes

namespace Nf
theorem sortR_self{u:List Int}(h:Up u):sortR u=u:=(sortR_is h (Same.refl u)).symm
theorem sortR_last{x:Int}{u:List Int}{k:Nat}(h:Up u)(h1:∀y∈u.take k,cls y≤cls x)(h2:∀y∈u.drop k,cls x<cls y):u.take k++x :: u.drop k=sortR (u++[x]):=by
 rw[sortR_snoc,sortR_self h]
 conv=>rhs;rw[←List.take_append_drop k u]
 rw[ins_done x _ _ h1 h2]
end Nf
theorem symMerge2_any(A u B:List Int)(x:Int)(pre post:List Value)(g off cap n a m b:Nat)(w:World)(h:SRow w g off pre post (A++(u++x :: B)))(hn:n=A.length+u.length+1+B.length)
  (ha:a=A.length) (hm:m=A.length+u.length) (hb:b=A.length+u.length+1) (hu:1<u.length) (hup:Nf.Up u) (hs:n≤1000000000) :
  Calls Tryz.prog 200 #[.slice (some ⟨g,off,none⟩) n cap,.int .i64 a,.int .i64 m,.int .i64 b,.func (.func 155) #[] #[]] w fun e w'=>e=.returned (.tuple #[])∧SRow w' g off pre post (A++(Nf.sortR (u++[x])++B))∧But g w w':=by
 have HR:=hide h;have Hn:=hide hn;have Ha:=hide ha;have Hm:=hide hm;have Hb:=hide hb;have HU:=hide hup;have hmn:m<n:=by omega
 have ham:a+1<m:=by omega
 have HC:=hide (fun x y W=>byClass_any x y W);obtain⟨lu,hlu⟩:∃lu,u.length=lu:=⟨_,rfl⟩;have Hlu:=hide hlu;have z0:IntKind.i64.wrap ((m:Int)-(a:Int))=(lu:Int):=by rw[IntWalk.i64_in _ (by omega)];omega
 have hlu1:((lu:Int)==1)=false:=by
  have:¬(lu:Int)=1:=by omega
  simpa using this
 have z00:IntKind.i64.wrap ((b:Int)-(m:Int))=1:=by rw[IntWalk.i64_in _ (by omega)];omega
 clear h hn ha hm hb hu hup hlu
 go_enter Tryz.func200,Tryz.ntmps200
 go_wp2
 go_loopg [14,15] (m-a) (fun gk vi vj wr=>∃(i j:Nat),gk=j-i∧a≤i∧i≤j∧j≤m∧vi=.int .i64 (i:Int)∧vj=.int .i64 (j:Int)∧(∀y∈u.take (i-a),Nf.cls y≤Nf.cls x)∧(∀y∈u.drop (j-a),Nf.cls x<Nf.cls y)∧SRow wr g off pre post (A++(u++x :: B))∧But g w wr)
 case atStart=>exact⟨a,m,rfl,Nat.le_refl _,by omega,Nat.le_refl _,rfl,rfl,by simp,by rw[List.drop_of_length_le (by have:=Hm.out;have:=Ha.out;omega)];simp,HR.out,But.refl _ _⟩
 case round=>
  obtain⟨i,j,hgk,hmi,hij,hjb,rfl,rfl,h1,h2,hr,hbt⟩:=hrel;have Hg:=hide hgk;have HI:=hide hr;have HB:=hide hbt;have H1:=hide h1;have H2:=hide h2;clear hgk hr hbt h1 h2
  by_cases hlt:i<j
  ·have hsum:IntKind.i64.wrap ((i:Int)+(j:Int))=((i+j:Nat):Int):=by rw[IntWalk.i64_in _ (by omega)];omega
   obtain⟨d,hd⟩:∃d,(i+j) / 2=d:=⟨_,rfl⟩;have hdz:((i:Int)+(j:Int)) / 2=(d:Int):=by omega
   have hid:i≤d:=by omega
   have hdj:d<j:=by omega
   have hdn:d<n:=by omega
   clear hd hsum;obtain⟨y,hy⟩:∃y,u[d-a]?=some y:=⟨_,List.getElem?_eq_getElem (by have:=Hm.out;have:=Ha.out;omega)⟩;have c1:wr.cell? ⟨g,off+d,none⟩=some (.int .i64 y):=HI.out.at_ (by rw[List.getElem?_append_right (by have:=Ha.out;omega),←Ha.out,List.getElem?_append_left (List.getElem?_eq_some_iff.1 hy).1];exact hy);have c2:wr.cell? ⟨g,off+m,none⟩=some (.int .i64 x):=HI.out.at_ (by rw[Hm.out,List.getElem?_append_right (by omega),List.getElem?_append_right (by omega),show A.length+u.length-A.length-u.length=0 by omega];rfl);obtain⟨q,hq⟩:∃q,Nf.cls x-Nf.cls y=q:=⟨_,rfl⟩;have HC1:=hide (fun W=>HC.out x y W);rw[hq] at HC1;have Hq:=hide hq;have Hy:=hide hy;clear hq hy
   by_cases hc:q<0
   ·have hd3:decide (q<0)=true:=decide_eq_true hc
    go_wp2_with fail
    go_quiet ((go_at_call 155;refine Calls.quiet_of_same (HC1.out _)))
    have HBW:=hide (show But g w (wr.drewN nq) from⟨HB.out.os,HB.out.tape,HB.out.output,HB.out.size,HB.out.block⟩);have HRW:=hide (HI.out.drewN nq);generalize wr.drewN nq=W at HRW HBW ⊢;clear c1 c2;go_wp2
    go_roundg (d-i)
    case measure=>have:=Hg.out;omega
    case rel=>
     refine⟨i,d,rfl,by omega,by omega,by omega,rfl,rfl,H1.out,?_,HRW.out,HBW.out⟩;intro z hz;have:=Nf.up_drop HU.out Hy.out z hz;have:=Hq.out;omega
   have hd3:decide (q<0)=false:=decide_eq_false hc;have zd:IntKind.i64.wrap ((d:Int)+1)=((d+1:Nat):Int):=by rw[IntWalk.i64_in _ (by omega)];omega
   go_wp2_with fail
   go_quiet ((go_at_call 155;refine Calls.quiet_of_same (HC1.out _)))
   have HBW:=hide (show But g w (wr.drewN nq) from⟨HB.out.os,HB.out.tape,HB.out.output,HB.out.size,HB.out.block⟩);have HRW:=hide (HI.out.drewN nq);generalize wr.drewN nq=W at HRW HBW ⊢;clear c1 c2;go_wp2
   go_roundg (j-(d+1))
   case measure=>have:=Hg.out;omega
   case rel=>
    refine⟨d+1,j,rfl,by omega,by omega,hjb,by first|rfl|go_num,rfl,?_,H2.out,HRW.out,HBW.out⟩;intro z hz;rw[show d+1-a=(d-a)+1 by omega] at hz;have:=Nf.up_take HU.out Hy.out z hz;have:=Hq.out;omega
  have hjj:j=i:=by omega
  subst hjj;have HF:=hide (Nf.sortR_last HU.out H1.out H2.out);obtain⟨k,hk⟩:∃k,j-a=k:=⟨_,rfl⟩;rw[hk] at HF;have Hk:=hide hk;have Hvl:=hide (show (u.take k).length=k by rw[List.length_take];have:=Hm.out;have:=Ha.out;omega);have Hdl:=hide (show (u.drop k).length=m-j by rw[List.length_drop];have:=Hm.out;have:=Ha.out;omega);have HR2:=hide (HI.out.as (show A++(u++x :: B)=A++(u.take k++(u.drop k++x :: B)) by rw[←List.append_assoc (u.take k),List.take_append_drop]));clear hk HI H1 H2;generalize u.take k=u1 at HF Hvl HR2;generalize u.drop k=u2 at HF HR2 Hdl;go_wp2
  go_loopg [17] (m-j) (fun gk vk wj=>∃(t i:Nat),gk=t∧t≤m-j∧i=j+t∧vk=.int .i64 (i:Int)∧SRow wj g off pre post (A++(u1++(u2.take t++x :: (u2.drop t++B))))∧But g w wj)
  case atStart=>exact⟨m-j,m,rfl,Nat.le_refl _,by omega,rfl,by rw[List.take_of_length_le (by rw[Hdl.out];exact Nat.le_refl _),List.drop_of_length_le (by rw[Hdl.out];exact Nat.le_refl _)];exact HR2.out,HB.out⟩
  case round=>
   obtain⟨t,i,hgt,htk,hi,rfl,hr,hbt⟩:=hrel;have Hgt:=hide hgt;have HI3:=hide hr;have HB3:=hide hbt;have Hi:=hide hi;clear hgt hr hbt hi
   by_cases hlt2:j<i
   ·obtain⟨t1,ht1⟩:∃t1,t=t1+1:=⟨t-1,by have:=Hi.out;omega⟩;subst ht1;obtain⟨y,hy⟩:∃y,u2[t1]?=some y:=⟨_,List.getElem?_eq_getElem (by have:=Hdl.out;omega)⟩;have e3:A++(u1++(u2.take (t1+1)++x :: (u2.drop (t1+1)++B)))=(A++(u1++u2.take t1))++y :: ([]++x :: (u2.drop (t1+1)++B)):=by rw[take_next hy];simp
    have e4:(A++(u1++u2.take t1))++x :: ([]++y :: (u2.drop (t1+1)++B))=A++(u1++(u2.take t1++x :: (u2.drop t1++B))):=by rw[take_drop_next hy];simp
    obtain⟨i1,hi1⟩:∃i1,i=i1+1:=⟨i-1,by omega⟩;have hrow:=HI3.out.as e3;have p1:i1=(A++(u1++u2.take t1)).length:=by rw[List.length_append,List.length_append,List.length_take,Hvl.out];have:=Hdl.out;have:=Ha.out;have:=Hi.out;have:=Hk.out;omega
    have p2:i=(A++(u1++u2.take t1)).length+1+([]:List Int).length:=by rw[←p1,hi1];rfl
    obtain⟨c1,c2,_,u3,c3⟩:=exch hrow p1 p2;have f1:=hrow.frozen (off+i1);have f2:=hrow.frozen (off+i);have N1:=hide ((swapped2 hrow p1 p2).as e4);have HBn:=hide ((HB3.out.setCell (p:=⟨g,off+i,none⟩) (.inl rfl) (.int .i64 y)).setCell (p:=⟨g,off+i1,none⟩) (.inl rfl) (.int .i64 x));have hin:i<n:=by have:=Hi.out;omega
    have zi:IntKind.i64.wrap ((i:Int)-1)=(i1:Int):=by rw[IntWalk.i64_in _ (by omega)];omega
    have hi1n:i1<n:=by have:=Hi.out;omega
    have Hi1:=hide hi1;clear hy e3 e4 p1 p2 hrow hi1;go_wp2
    go_region
    go_wp2
    go_roundg t1
    case measure=>have:=Hgt.out;omega
    case rel=>exact⟨t1,i1,rfl,by omega,by have:=Hi1.out;have:=Hi.out;omega,by first|rfl|go_num,N1.out.drew,HBn.out.drew⟩
   go_wp2;(try simp only[Exit.inBlock,Exit.then]);refine bodyPost_ret (results_none rfl _ _ _) rfl ?_;have htk2:t=0:=by have:=Hi.out;omega
   subst htk2;exact⟨rfl,HI3.out.as (by rw[←HF.out];simp),HB3.out⟩
end
end Go.Proofs.YtifiiojchlaghaaGreatDoor
