/- NFC: the document's pairs (ref10.Pairs). -/
import Derived.Test.YtifiiojchlaghaaGreatDoorOm01
import Derived.Test.YtifiiojchlaghaaGreatDoorOm06
import Derived.Test.YtifiiojchlaghaaGreatDoorOm35
set_option linter.unusedSimpArgs false
set_option maxRecDepth 100000
set_option maxHeartbeats 8000000
set_option linter.unusedVariables false
namespace Go.Proofs.YtifiiojchlaghaaGreatDoor
section
open Go.RowKit Go.WideShapes

theorem age{P:Program}{o:Oper}{a:Act}{K:Act→World→Prop}{Q:Exit→Act→World→Prop}(W:World)(hgd:o.guard=none)(s x:Operand)(t:TypeId)(ho:o.op=.call { callee:=.builtin .append,args:=#[s,x],argTypes:=#[t,t] })
  (base:Nat) (e:TypeId) (z:Value) (size bytes:Nat) (ht:P.underlying t=some (.slice e)) (fQ:(P.info? e).map (fun i=>(i.zero,i.size,i.bytes))=some (some z,size,bytes))
  (hzs:z.cells.size=size) (hsz:0<size) (v:Value) (n:Nat) (xs:List Value) (hs:a.eval s=v) (hown:W.ownsRow base e size v n xs)
  (cs:List Value) (hcs:cs.length=size) (h1:∀u∈cs,u.oneCell'=true) (H:Nat) (hH:ae W H e cs.toArray) (hx:a.eval x=.slice (some ⟨H,0,none⟩) 1 1)
  (h63:n+1≤maxLen) (hbytes:(n+1)*bytes≤140737488355328) (hbase:base≤W.heap.size)
  (h:∀g cap w',w'.ownsRow base e size (.slice (some ⟨g,0,none⟩) (n+1) cap) (n+1) (xs++cs)→W.grownBy w' v.ownBlock→g<w'.heap.size→K (a.put o.dst (.slice (some ⟨g,0,none⟩) (n+1) cap)) w'):Oper.wp P o a W K Q:=by
 have hh:=Fy (ops:=#[]) (Q:=Q) (E:=True) W hgd s x t ho base e z size bytes ht fQ hzs hsz v n xs hs hown cs hcs h1 H hH hx h63 hbytes hbase h;rw[if_pos (by simp[Region.wanted,hgd])] at hh;exact hh
theorem rM{w:World}{base e size n cap:Nat}{A:Option Addr}{xs:List Value}(h:w.ownsRow base e size (.slice A n cap) n xs):n≤cap:=by
 rcases h.2 with ⟨h0,h1⟩|⟨g',cap',cur,e,hb,hh,h1,h2,h3,h4⟩
 ·omega
 cases e;exact h1
theorem yp{w w':World}{base e size n:Nat}{v:Value}{xs:List Value}(h:w.ownsRow base e size v n xs)(hb:Below w.heap.size w w'):w'.ownsRow base e size v n xs :=
 h.kept (row:=some w.heap.size) ⟨hb.os,hb.tape,hb.output,hb.size,fun i hi _=>hb.block i hi⟩ (.inr fun e=>by have:=(h.lt _ e).2;omega)
theorem E3:∀(l:List Obj) (w:World),(laid w l).heap.size=w.heap.size+l.length
 | [],w=>rfl
 | o :: l,w=>by rw[laid,E3 l,World.size_alloc,List.length_cons];omega
theorem Lr:∀(l:List Obj) (w:World),Below w.heap.size w (laid w l)
 | [],w=>Below.refl _ _
 | o :: l,w=>(aA w o).trans ((Lr l (w.alloc o)).mono (by simp))
theorem Uq:∀(l:List Obj) (w:World) (i:Nat),i<l.length→(laid w l).heap[w.heap.size+i]?=l[i]?
 | [],w,i,h=>absurd h (by simp)
 | o :: l,w,0,_=>((Lr l (w.alloc o)).block _ (by simp)).trans (heap_alloc_new w o)
 | o :: l,w,i+1,h=>by
  have:=Uq l (w.alloc o) i (by simpa using h);rw[World.size_alloc] at this;rw[laid,List.getElem?_cons_succ,←this,show w.heap.size+(i+1)=w.heap.size+1+i by omega]
theorem VZ:∀(l:List (Int×List Int)) (Z i:Nat) (x:Int×List Int),l[i]?=some x→(mK Z l)[i*2]?=some (.int .i64 x.1)∧(mK Z l)[i*2+1]?=some (.slice (some ⟨Z+i,0,none⟩) x.2.length x.2.length)
 | [],Z,i,x,h=>by simp at h
 | y :: l,Z,0,x,h=>by
  cases h;exact⟨rfl,rfl⟩
 | y :: l,Z,i+1,x,h=>by
  have:=VZ l (Z+1) i x (by simpa using h);have e:mK Z (y :: l)=.int .i64 y.1 :: .slice (some ⟨Z,0,none⟩) y.2.length y.2.length :: mK (Z+1) l:=rfl;rw[e,show (i+1)*2=i*2+1+1 by omega,show Z+(i+1)=Z+1+i by omega];exact this
def wY(b:Nat)(W:World):Prop:=∀i x,Nf.dG[i]?=some x→W.cell? ⟨b+11,i*2,none⟩=some (.int .i64 x.1)∧W.cell? ⟨b+11,i*2+1,none⟩=some (.slice (some ⟨b+i,0,none⟩) x.2.length x.2.length)∧∀j v,x.2[j]?=some v→W.cell? ⟨b+i,j,none⟩=some (.int .i64 v)
theorem wY.below{b:Nat}{w w':World}(h:wY b w)(hb:Below (b+12) w w'):wY b w':=fun i x hx=>by
 have hi:i<11:=(List.getElem?_eq_some_iff.1 hx).1;obtain⟨h1,h2,h3⟩:=h i x hx;exact⟨(hb.cell (by show b+11<_;omega)).trans h1,(hb.cell (by show b+11<_;omega)).trans h2,fun j v hv=>(hb.cell (by show b+i<_;omega)).trans (h3 j v hv)⟩
theorem ajN(w:World):wY w.heap.size ((laid w (Nf.dG.map oY)).alloc (.cells (mK w.heap.size Nf.dG).toArray 254)):=fun i x hx=>by
 have hi:i<11:=(List.getElem?_eq_some_iff.1 hx).1;have hz:(laid w (Nf.dG.map oY)).heap.size=w.heap.size+11:=E3 _ _;obtain⟨h1,h2⟩:=VZ Nf.dG w.heap.size i x hx
 have hB:ae ((laid w (Nf.dG.map oY)).alloc (.cells (mK w.heap.size Nf.dG).toArray 254)) (w.heap.size+11) 254 (mK w.heap.size Nf.dG).toArray:=by
  have:=ae.new (laid w (Nf.dG.map oY)) 254 (mK w.heap.size Nf.dG).toArray;rwa[hz] at this
 refine⟨(hB.cell _).trans (by simpa using h1),(hB.cell _).trans (by simpa using h2),fun j v hv=>?_⟩
 have hL:ae (laid w (Nf.dG.map oY)) (w.heap.size+i) 3 (ar x.2).toArray:=by
  have:=Uq (Nf.dG.map oY) w i (by simpa using show i<Nf.dG.length from hi);rw[List.getElem?_map,hx] at this;exact this
 rw[(hL.alloc _).cell];simp[ar,hv]
namespace Nf
theorem Vs:∀(m:Int) (l:List Int) (q:Nat) (a b:Int),l[q*2]?=some a→l[q*2+1]?=some b→(mI m l)[q]?=some ⟨b,a,m⟩
 | m,[],q,a,b,h,_=>by simp at h
 | m,[x],q,a,b,_,h=>by simp at h
 | m,x :: y :: l,0,a,b,h1,h2=>by
  cases h1;cases h2;rfl
 | m,x :: y :: l,q+1,a,b,h1,h2=>by
  have e:mI m (x :: y :: l)=⟨y,x,m⟩ :: mI m l:=rfl;rw[show (q+1)*2=q*2+1+1 by omega] at h1 h2;rw[e,List.getElem?_cons_succ];exact Vs m l q a b h1 h2
theorem ajL:∀x∈dG,x.2.length=(mI x.1 x.2).length*2:=by decide +kernel
theorem ajM:∀x∈dG,x.2.length≤28:=by decide +kernel
def mW(l:List Pr):List Pr:=l.foldl ml []
theorem abi(l:List Pr)(p:Pr):mW (l++[p])=ml (mW l) p:=by
 unfold mW;rw[List.foldl_append];rfl
theorem QO:∀(l acc:List Pr),(l.foldl ml acc).length=acc.length+l.length
 | [],acc=>rfl
 | p :: l,acc=>by rw[List.foldl_cons,QO l,QP,List.length_cons];omega
theorem xg(l:List Pr):(mW l).length=l.length:=by unfold mW;rw[QO];simp
def eW(i q:Nat):List Pr:=(dG.take i).flatMap (fun x=>mI x.1 x.2)++(match dG[i]? with
 | some x=>(mI x.1 x.2).take q
 | none=>[])
theorem ag2{i q:Nat}{x:Int×List Int}{p:Pr}(hx:dG[i]?=some x)(hp:(mI x.1 x.2)[q]?=some p):eW i (q+1)=eW i q++[p]:=by
 unfold eW;rw[hx];dsimp only;rw[List.take_add_one,hp,List.append_assoc];rfl
theorem ag3{i q:Nat}{x:Int×List Int}(hx:dG[i]?=some x)(hq:q=(mI x.1 x.2).length):eW (i+1) 0=eW i q:=by
 unfold eW;rw[hx];dsimp only;rw[List.take_of_length_le (l:=mI x.1 x.2) (by omega),List.take_add_one,hx,List.flatMap_append]
 cases dG[i+1]?<;>simp
def mX:List Int:=[832,768,833,769,8486,937,8490,75,8491,197]
theorem IY:∀(j:Nat) (p:Pr),oa[j]?=some p→mX[j*2]?=some p.w∧mX[j*2+1]?=some p.f∧p.s=0:=by
 intro j p h
 match j with
 | 0=>cases h;exact⟨rfl,rfl,rfl⟩
 | 1=>cases h;exact⟨rfl,rfl,rfl⟩
 | 2=>cases h;exact⟨rfl,rfl,rfl⟩
 | 3=>cases h;exact⟨rfl,rfl,rfl⟩
 | 4=>cases h;exact⟨rfl,rfl,rfl⟩
 | j+5=>exact absurd h (by simp[oa])
theorem ag1:mW (eW 11 0)++oa=iE:=rfl
theorem VK:∀i,i<12→∀q,q<20→(eW i q).length≤500:=by decide +kernel
end Nf
theorem VS(w:World):Calls Tryz.prog 194 #[] w fun e w'=>(∃A' c',e=.returned (.slice A' Nf.iE.length c')∧w'.ownsRow w.heap.size 237 3 (.slice A' Nf.iE.length c') Nf.iE.length (bL Nf.iE))∧Below w.heap.size w w':=by
 have HT:=hide (ajN w);have po:=hide (Below.trans (Lr (Nf.dG.map oY) w) ((aA (laid w (Nf.dG.map oY)) (.cells (mK w.heap.size Nf.dG).toArray 254)).mono (by rw[E3];omega)));have HZ:=hide (show ((laid w (Nf.dG.map oY)).alloc (.cells (mK w.heap.size Nf.dG).toArray 254)).heap.size=w.heap.size+12 by rw[World.size_alloc,E3];rfl);have NI:=hide (ahM w);obtain⟨W1,R4⟩:∃W1,(laid w (Nf.dG.map oY)).alloc (.cells (mK w.heap.size Nf.dG).toArray 254)=W1:=⟨_,rfl⟩;rw[R4] at HT po HZ NI;clear R4
 go_enter Tryz.func194,Tryz.ntmps194
 go_wp2_with fail
 refine NI.out.mono ?_;rintro e w1 ⟨rfl,mB⟩;subst mB;go_wp2
 go_loopg [1,3,4] 11 (fun gk v1 v3 v4 wr=>∃(i:Nat) (A2:Option Addr) (c2:Nat),gk=11-i∧i≤11∧v3=.int .i64 (i:Int)∧v1=.slice A2 (Nf.eW i 0).length c2∧(Nf.eW i 0).length≤c2∧wr.ownsRow (w.heap.size+12) 237 3 (.slice A2 (Nf.eW i 0).length c2) (Nf.eW i 0).length (bL (Nf.mW (Nf.eW i 0)))∧wY w.heap.size wr∧Below w.heap.size w wr∧w.heap.size+12≤wr.heap.size)
 case atStart=>exact⟨0,none,0,rfl,by omega,rfl,rfl,by decide,World.ownsRow_nil _ _ _ _,HT.out,po.out,by rw[HZ.out];exact Nat.le_refl _⟩
 case round=>
  obtain⟨i,A2,c2,aq,hi,rfl,rfl,bk,ho,ht,hb,aM⟩:=hrel;have Hg:=hide aq;have HO:=hide ho;have uh:=hide bk;have kX:=hide ht;have HB:=hide hb;clear aq ho bk ht hb
  by_cases hlt:i<11
  ·obtain⟨x,hx⟩:∃x,Nf.dG[i]?=some x:=⟨_,List.getElem?_eq_getElem (by exact hlt)⟩;have Kf:=Nf.ajL x (List.mem_of_getElem? hx);have HX:=hide hx;obtain⟨Z,hZ⟩:∃Z,(Nf.mI x.1 x.2).length=Z:=⟨_,rfl⟩;have Y9:=hide hZ;rw[hZ] at Kf;obtain⟨n,hn⟩:∃n,x.2.length=n:=⟨_,rfl⟩;have HN:=hide hn;have um:=hide (hn.symm.trans Kf);have SG:(0:Int)≤i∧(i:Int)<11:=by omega
   have amC:n≤28:=by rw[←hn];exact Nf.ajM x (List.mem_of_getElem? hx)
   have am5:Z<20:=by have:=um.out;omega
   clear hx Kf hZ hn;go_wp2
   rename World=>wo
   go_loopg [1,4] Z (fun gq v1 v4 wr=>∃(q k:Nat) (A2:Option Addr) (c2:Nat),gq=Z-q∧q≤Z∧k=q*2∧v4=.int .i64 (k:Int)∧v1=.slice A2 (Nf.eW i q).length c2∧(Nf.eW i q).length≤c2∧wr.ownsRow (w.heap.size+12) 237 3 (.slice A2 (Nf.eW i q).length c2) (Nf.eW i q).length (bL (Nf.mW (Nf.eW i q)))∧wY w.heap.size wr∧Below w.heap.size w wr∧w.heap.size+12≤wr.heap.size)
   case atStart=>exact⟨0,0,_,_,rfl,by omega,rfl,rfl,rfl,uh.out,HO.out,kX.out,HB.out,aM⟩
   case round=>
    obtain⟨q,k,A2,c2,tz,hq,hk,rfl,rfl,bk,ho,ht,hb,aM⟩:=hrel;have l9:=hide tz;have aL:=hide ho;have Cq:=hide bk;have ah:=hide hb;have cz:=hide ht;have HK:=hide hk;have cG:w.heap.size+12≤wr.heap.size:=aM;clear tz ho bk hb ht hk aM;obtain⟨oN,Lc,ew⟩:=cz.out i x HX.out;rw[HN.out] at Lc
    by_cases hqz:q<Z
    ·have vC:k+1<n:=by have:=um.out;have:=HK.out;omega
     obtain⟨k1,cC⟩:∃k1,k+1=k1:=⟨_,rfl⟩;obtain⟨la,cn⟩:∃v,x.2[k]?=some v:=⟨_,List.getElem?_eq_getElem (by have:=HN.out;omega)⟩;obtain⟨lb,eP⟩:∃v,x.2[k1]?=some v:=⟨_,List.getElem?_eq_getElem (by have:=HN.out;omega)⟩;have y0:=Lc;have y1:=oN;have y2:=ew _ _ cn;have y3:=ew _ _ eP;have hp:(Nf.mI x.1 x.2)[q]?=some ⟨lb,la,x.1⟩:=Nf.Vs x.1 x.2 q la lb (by rw[←HK.out];exact cn) (by rw[←HK.out,cC];exact eP);have bD:=Nf.ag2 HX.out hp;have iN:Nf.mW (Nf.eW i (q+1))=Nf.ml (Nf.mW (Nf.eW i q)) ⟨lb,la,x.1⟩:=by rw[bD,Nf.abi]
     have js:(Nf.eW i (q+1)).length=(Nf.eW i q).length+1:=by rw[bD,List.length_append];rfl
     have hle:=Nf.VK i (by omega) q (by omega);have sq:=hide (fun (W:World) (h:Below wr.heap.size wr W)=>ahD (Nf.mW (Nf.eW i q)) ⟨lb,la,x.1⟩ A2 c2 wr.heap.size W ((by have:=Reads.dA aL.out;rw[←Nf.xg] at this;exact this.below h)) h.size (by rw[Nf.xg];omega) (by rw[Nf.xg];exact Cq.out));have r9:=hide iN;have qo:=hide js;have z1:IntKind.i64.wrap ((k:Int)+1)=(k1:Int):=by rw[IntWalk.i64_in _ (by omega)];omega
     have amk:=hide cC;have fS:(0:Int)≤k∧(k:Int)<n:=by omega
     have adF:(0:Int)≤k1∧(k1:Int)<n:=by omega
     rw[←r9.out] at sq;unfold wm at sq;rw[Nf.xg] at sq;rw[Nf.xg,qo.out] at sq;dsimp only at sq;clear ew cn eP hp bD iN js Lc oN cC;obtain⟨mk,ri⟩:∃m,x.1=m:=⟨_,rfl⟩;rw[ri] at y1 sq;clear ri;obtain⟨pn,lJ⟩:∃m,(Nf.eW i q).length=m:=⟨_,rfl⟩;have ux:=hide lJ;rw[lJ] at sq hle;rw[lJ];clear lJ
     go_wp2_with fail
     refine wp_region_held_drew (S:=fun W=>Below wr.heap.size wr W) (by kernel_rfl) ?_ (fun hHeld=>?_)
     ·(try dsimp only)
      first|done|exact (Below.refl _ _).drew|exact hHeld|exact hHeld.drew
     change wpAnyH _ _ _ _ _ 26 #[false,false,false,false,false,false,false,false,false,false,false,false,false,false,false,false,false,false,false,false,false,false,false,false,false,false] _ _;refine bW (i:=0) (d:=24) (v:=?_) rfl rfl (by kernel_rfl) (by kernel_rfl) (by kernel_rfl) (fun _ _ _ h=>h) (by kernel_rfl) hHeld ?_ ?_;rotate_left
     ·intro w hSw;(try dsimp only at hSw);go_simp
      first|done|with_reducible rfl
     (try simp only[Act.put,List.setIfInBounds_toArray,List.set_cons_zero,List.set_cons_succ]);refine bW (i:=1) (d:=25) (v:=?_) rfl rfl (by kernel_rfl) (by kernel_rfl) (by kernel_rfl) (fun _ _ _ h=>h) (by kernel_rfl) hHeld ?_ ?_;rotate_left
     ·intro w hSw;(try dsimp only at hSw);go_simp
      first|done|with_reducible rfl
     (try simp only[Act.put,List.setIfInBounds_toArray,List.set_cons_zero,List.set_cons_succ]);refine bW (i:=2) (d:=26) (v:=?_) rfl rfl (by kernel_rfl) (by kernel_rfl) (by kernel_rfl) (fun _ _ _ h=>h) (by kernel_rfl) hHeld ?_ ?_;rotate_left
     ·intro w hSw;(try dsimp only at hSw);go_simp
      first|done|with_reducible rfl
     (try simp only[Act.put,List.setIfInBounds_toArray,List.set_cons_zero,List.set_cons_succ]);refine bW (i:=3) (d:=27) (v:=?_) rfl rfl (by kernel_rfl) (by kernel_rfl) (by kernel_rfl) (fun _ _ _ h=>h) (by kernel_rfl) hHeld ?_ ?_;rotate_left
     ·intro w hSw;(try dsimp only at hSw);go_simp
      first|done|with_reducible rfl
     (try simp only[Act.put,List.setIfInBounds_toArray,List.set_cons_zero,List.set_cons_succ]);refine bW (i:=4) (d:=28) (v:=?_) rfl rfl (by kernel_rfl) (by kernel_rfl) (by kernel_rfl) (fun _ _ _ h=>h) (by kernel_rfl) hHeld ?_ ?_;rotate_left
     ·intro w hSw;(try dsimp only at hSw);go_simp
      first|done|with_reducible rfl
     (try simp only[Act.put,List.setIfInBounds_toArray,List.set_cons_zero,List.set_cons_succ]);refine bW (i:=5) (d:=29) (v:=?_) rfl rfl (by kernel_rfl) (by kernel_rfl) (by kernel_rfl) (fun _ _ _ h=>h) (by kernel_rfl) hHeld ?_ ?_;rotate_left
     ·intro w hSw;(try dsimp only at hSw);have s0:=(hSw.cell (bI y0)).trans y0;have s1:=(hSw.cell (bI y1)).trans y1;have s2:=(hSw.cell (bI y2)).trans y2;have s3:=(hSw.cell (bI y3)).trans y3;go_simp
      first|done|with_reducible rfl
     (try simp only[Act.put,List.setIfInBounds_toArray,List.set_cons_zero,List.set_cons_succ]);refine bW (i:=6) (d:=30) (v:=?_) rfl rfl (by kernel_rfl) (by kernel_rfl) (by kernel_rfl) (fun _ _ _ h=>h) (by kernel_rfl) hHeld ?_ ?_;rotate_left
     ·intro w hSw;(try dsimp only at hSw);go_simp
      first|done|with_reducible rfl
     (try simp only[Act.put,List.setIfInBounds_toArray,List.set_cons_zero,List.set_cons_succ]);refine bW (i:=7) (d:=31) (v:=?_) rfl rfl (by kernel_rfl) (by kernel_rfl) (by kernel_rfl) (fun _ _ _ h=>h) (by kernel_rfl) hHeld ?_ ?_;rotate_left
     ·intro w hSw;(try dsimp only at hSw);go_simp
      first|done|with_reducible rfl
     (try simp only[Act.put,List.setIfInBounds_toArray,List.set_cons_zero,List.set_cons_succ]);refine bW (i:=8) (d:=32) (v:=?_) rfl rfl (by kernel_rfl) (by kernel_rfl) (by kernel_rfl) (fun _ _ _ h=>h) (by kernel_rfl) hHeld ?_ ?_;rotate_left
     ·intro w hSw;(try dsimp only at hSw);go_simp
      first|done|with_reducible rfl
     (try simp only[Act.put,List.setIfInBounds_toArray,List.set_cons_zero,List.set_cons_succ]);refine bW (i:=9) (d:=33) (v:=?_) rfl rfl (by kernel_rfl) (by kernel_rfl) (by kernel_rfl) (fun _ _ _ h=>h) (by kernel_rfl) hHeld ?_ ?_;rotate_left
     ·intro w hSw;(try dsimp only at hSw);have s0:=(hSw.cell (bI y0)).trans y0;have s1:=(hSw.cell (bI y1)).trans y1;have s2:=(hSw.cell (bI y2)).trans y2;have s3:=(hSw.cell (bI y3)).trans y3;go_simp
      first|done|with_reducible rfl
     (try simp only[Act.put,List.setIfInBounds_toArray,List.set_cons_zero,List.set_cons_succ]);refine bW (i:=10) (d:=34) (v:=?_) rfl rfl (by kernel_rfl) (by kernel_rfl) (by kernel_rfl) (fun _ _ _ h=>h) (by kernel_rfl) hHeld ?_ ?_;rotate_left
     ·intro w hSw;(try dsimp only at hSw);go_simp
      first|done|with_reducible rfl
     (try simp only[Act.put,List.setIfInBounds_toArray,List.set_cons_zero,List.set_cons_succ]);refine bW (i:=11) (d:=35) (v:=?_) rfl rfl (by kernel_rfl) (by kernel_rfl) (by kernel_rfl) (fun _ _ _ h=>h) (by kernel_rfl) hHeld ?_ ?_;rotate_left
     ·intro w hSw;(try dsimp only at hSw);go_simp
      first|done|with_reducible rfl
     (try simp only[Act.put,List.setIfInBounds_toArray,List.set_cons_zero,List.set_cons_succ]);refine bW (i:=12) (d:=36) (v:=?_) rfl rfl (by kernel_rfl) (by kernel_rfl) (by kernel_rfl) (fun _ _ _ h=>h) (by kernel_rfl) hHeld ?_ ?_;rotate_left
     ·intro w hSw;(try dsimp only at hSw);go_simp
      first|done|with_reducible rfl
     (try simp only[Act.put,List.setIfInBounds_toArray,List.set_cons_zero,List.set_cons_succ]);refine bW (i:=13) (d:=37) (v:=?_) rfl rfl (by kernel_rfl) (by kernel_rfl) (by kernel_rfl) (fun _ _ _ h=>h) (by kernel_rfl) hHeld ?_ ?_;rotate_left
     ·intro w hSw;(try dsimp only at hSw);go_simp
      first|done|with_reducible rfl
     (try simp only[Act.put,List.setIfInBounds_toArray,List.set_cons_zero,List.set_cons_succ]);refine bW (i:=14) (d:=38) (v:=?_) rfl rfl (by kernel_rfl) (by kernel_rfl) (by kernel_rfl) (fun _ _ _ h=>h) (by kernel_rfl) hHeld ?_ ?_;rotate_left
     ·intro w hSw;(try dsimp only at hSw);have s0:=(hSw.cell (bI y0)).trans y0;have s1:=(hSw.cell (bI y1)).trans y1;have s2:=(hSw.cell (bI y2)).trans y2;have s3:=(hSw.cell (bI y3)).trans y3;go_simp
      first|done|with_reducible rfl
     (try simp only[Act.put,List.setIfInBounds_toArray,List.set_cons_zero,List.set_cons_succ]);refine bW (i:=15) (d:=39) (v:=?_) rfl rfl (by kernel_rfl) (by kernel_rfl) (by kernel_rfl) (fun _ _ _ h=>h) (by kernel_rfl) hHeld ?_ ?_;rotate_left
     ·intro w hSw;(try dsimp only at hSw);go_simp
      first|done|with_reducible rfl
     (try simp only[Act.put,List.setIfInBounds_toArray,List.set_cons_zero,List.set_cons_succ]);refine bW (i:=16) (d:=40) (v:=?_) rfl rfl (by kernel_rfl) (by kernel_rfl) (by kernel_rfl) (fun _ _ _ h=>h) (by kernel_rfl) hHeld ?_ ?_;rotate_left
     ·intro w hSw;(try dsimp only at hSw);go_simp
      first|done|with_reducible rfl
     (try simp only[Act.put,List.setIfInBounds_toArray,List.set_cons_zero,List.set_cons_succ]);refine bW (i:=17) (d:=41) (v:=?_) rfl rfl (by kernel_rfl) (by kernel_rfl) (by kernel_rfl) (fun _ _ _ h=>h) (by kernel_rfl) hHeld ?_ ?_;rotate_left
     ·intro w hSw;(try dsimp only at hSw);have s0:=(hSw.cell (bI y0)).trans y0;have s1:=(hSw.cell (bI y1)).trans y1;have s2:=(hSw.cell (bI y2)).trans y2;have s3:=(hSw.cell (bI y3)).trans y3;go_simp
      first|done|with_reducible rfl
     (try simp only[Act.put,List.setIfInBounds_toArray,List.set_cons_zero,List.set_cons_succ]);refine bW (i:=18) (d:=42) (v:=?_) rfl rfl (by kernel_rfl) (by kernel_rfl) (by kernel_rfl) (fun _ _ _ h=>h) (by kernel_rfl) hHeld ?_ ?_;rotate_left
     ·intro w hSw;(try dsimp only at hSw);go_simp
      first|done|with_reducible rfl
     (try simp only[Act.put,List.setIfInBounds_toArray,List.set_cons_zero,List.set_cons_succ]);refine bW (i:=19) (d:=43) (v:=?_) rfl rfl (by kernel_rfl) (by kernel_rfl) (by kernel_rfl) (fun _ _ _ h=>h) (by kernel_rfl) hHeld ?_ ?_;rotate_left
     ·intro w hSw;(try dsimp only at hSw);go_simp
      first|done|with_reducible rfl
     (try simp only[Act.put,List.setIfInBounds_toArray,List.set_cons_zero,List.set_cons_succ]);refine bW (i:=20) (d:=44) (v:=?_) rfl rfl (by kernel_rfl) (by kernel_rfl) (by kernel_rfl) (fun _ _ _ h=>h) (by kernel_rfl) hHeld ?_ ?_;rotate_left
     ·intro w hSw;(try dsimp only at hSw);go_simp
      first|done|with_reducible rfl
     (try simp only[Act.put,List.setIfInBounds_toArray,List.set_cons_zero,List.set_cons_succ]);refine bW (i:=21) (d:=45) (v:=?_) rfl rfl (by kernel_rfl) (by kernel_rfl) (by kernel_rfl) (fun _ _ _ h=>h) (by kernel_rfl) hHeld ?_ ?_;rotate_left
     ·intro w hSw;(try dsimp only at hSw);go_simp
      first|done|with_reducible rfl
     (try simp only[Act.put,List.setIfInBounds_toArray,List.set_cons_zero,List.set_cons_succ]);refine bW (i:=22) (d:=46) (v:=?_) rfl rfl (by kernel_rfl) (by kernel_rfl) (by kernel_rfl) (fun _ _ _ h=>h) (by kernel_rfl) hHeld ?_ ?_;rotate_left
     ·intro w hSw;(try dsimp only at hSw);have s0:=(hSw.cell (bI y0)).trans y0;have s1:=(hSw.cell (bI y1)).trans y1;have s2:=(hSw.cell (bI y2)).trans y2;have s3:=(hSw.cell (bI y3)).trans y3;go_simp
      first|done|with_reducible rfl
     (try simp only[Act.put,List.setIfInBounds_toArray,List.set_cons_zero,List.set_cons_succ]);refine bW (i:=23) (d:=47) (v:=?_) rfl rfl (by kernel_rfl) (by kernel_rfl) (by kernel_rfl) (fun _ _ _ h=>h) (by kernel_rfl) hHeld ?_ ?_;rotate_left
     ·intro w hSw;(try dsimp only at hSw);go_simp
      first|done|with_reducible rfl
     (try simp only[Act.put,List.setIfInBounds_toArray,List.set_cons_zero,List.set_cons_succ]);refine jr (i:=24) rfl (by kernel_rfl) (by kernel_rfl) (fun K hK=>?_);go_simp
     go_at_call 204
     refine (sq.out _ hHeld).mono ?_;rintro e w' ⟨⟨A3,c3,rfl,bX⟩,aD⟩;have cf:=hide (bX.mono (Nat.le_trans cG hHeld.size));have ax:=hide (ah.out.trans ((hHeld.trans (aD.mono hHeld.size)).mono ah.out.size));have hz3:wr.heap.size≤w'.heap.size:=Nat.le_trans hHeld.size aD.size;replace hHeld:=hHeld.trans (aD.mono hHeld.size);clear bX aD;(try dsimp only);refine hK.out _ _ ?_ (fun bc=>?_)
     ·(try dsimp only)
      first|done|exact (Below.refl _ _).drew|exact hHeld|exact hHeld.drew
     clear hK K hHeld;have hHeld:=bc;clear bc;(try simp only[Act.put,List.setIfInBounds_toArray,List.set_cons_zero,List.set_cons_succ]);refine bW (i:=25) (d:=1) (v:=?_) rfl rfl (by kernel_rfl) (by kernel_rfl) (by kernel_rfl) (fun _ _ _ h=>h) (by kernel_rfl) hHeld ?_ ?_;rotate_left
     ·intro w hSw;(try dsimp only at hSw);go_simp
      first|done|with_reducible rfl
     (try simp only[Act.put,List.setIfInBounds_toArray,List.set_cons_zero,List.set_cons_succ]);refine wpAnyH_done (by kernel_rfl) ?_ _;go_wp2
     go_roundg (Z-(q+1))
     case measure=>have:=l9.out;omega
     case rel=>
      have aD:Below (w.heap.size+12) wr w':=hHeld.mono cG;refine⟨q+1,k+2,A3,c3,rfl,by omega,by have:=HK.out;omega,by first|rfl|go_num,?_,?_,?_,cz.out.below aD,ax.out,by omega⟩
      ·rw[qo.out,ux.out]
      ·rw[qo.out,ux.out];exact rM cf.out
      rw[qo.out,ux.out];exact cf.out
    have vC:¬k<n:=by have:=um.out;have:=HK.out;omega
    have Tj:q=Z:=by omega
    have aj:=hide (Nf.ag3 HX.out (Tj.trans Y9.out.symm));have fS:¬(k:Int)<(n:Int):=by omega
    clear ew Tj;go_wp2
    go_roundg (11-(i+1))
    case measure=>have:=Hg.out;omega
    case rel=>exact⟨i+1,A2,c2,rfl,by omega,by first|rfl|go_num,by rw[aj.out],by rw[aj.out];exact Cq.out,by rw[aj.out];exact aL.out,cz.out,ah.out,cG⟩
  have ads:i=11:=by omega
  subst ads;obtain⟨m,hm⟩:∃m,(Nf.eW 11 0).length=m:=⟨_,rfl⟩;have hm5:m≤500:=by rw[←hm];exact Nf.VK 11 (by omega) 0 (by omega)
  have HM:=hide hm;have HD:=hide (fun W=>aht W);have HE:=hide Nf.ag1;obtain⟨LL,DZ⟩:∃L,Nf.mW (Nf.eW 11 0)=L:=⟨_,rfl⟩;have Yk:=hide DZ;rw[hm,DZ] at HO;rw[DZ] at HE;rw[hm];clear hm DZ
  go_wp2_with fail
  refine (HD.out _).mono ?_;rintro e wd ⟨rfl,hwd⟩;obtain⟨D,hD⟩:∃D,wr.heap.size=D:=⟨_,rfl⟩;have kA:=ae.new wr 3 (Nf.mX.map (Value.int .i64)).toArray;rw[hD] at kA;have mO:=hide (show ae wd D 3 (Nf.mX.map (Value.int .i64)).toArray from by rw[hwd];exact kA);have jn:Below wr.heap.size wr wd:=by rw[hwd];exact aA _ _
  have a8:=hide (HB.out.trans (jn.mono HB.out.size));have fD:=hide (yp HO.out jn);have hDw:w.heap.size+12≤D:=by omega
  have hDd:D+1≤wd.heap.size:=mO.out.lt;rw[hD];clear hwd kA jn hD;dsimp only;go_wp2
  go_loopg [1,6] 5 (fun gk v1 v6 wr=>∃(j k:Nat) (A3:Option Addr) (c3:Nat),gk=5-j∧j≤5∧k=j*2∧v6=.int .i64 (k:Int)∧v1=.slice A3 (m+j) c3∧wr.ownsRow (w.heap.size+12) 237 3 (.slice A3 (m+j) c3) (m+j) (bL (LL++Nf.oa.take j))∧ae wr D 3 (Nf.mX.map (Value.int .i64)).toArray∧Below w.heap.size w wr∧w.heap.size+12≤wr.heap.size∧(Value.slice A3 (m+j) c3).ownBlock≠some D)
  case atStart=>exact⟨0,0,A2,c2,rfl,by omega,rfl,rfl,rfl,by rw[List.take_zero,List.append_nil];exact fD.out,mO.out,a8.out,by omega,dc fD.out mO.out (by decide)⟩
  case round=>
   obtain⟨j,k,A3,c3,aq,hj,hk,rfl,rfl,ho,kA,hb,mq,pM⟩:=hrel;have Zc:=hide aq;have cf:=hide ho;have Gg:=hide kA;have ax:=hide hb;have HK:=hide hk;have Yq:=hide pM;clear aq ho kA hb hk pM
   by_cases hj5:j<5
   ·obtain⟨p,hp⟩:∃p,Nf.oa[j]?=some p:=⟨_,List.getElem?_eq_getElem (by exact hj5)⟩;obtain⟨dM,bK,gU⟩:=Nf.IY j p hp;have uy:=hide (show Nf.oa.take (j+1)=Nf.oa.take j++[p] by rw[List.take_add_one,hp];rfl);obtain⟨pw,pf,ps⟩:=p;dsimp only at dM bK gU;subst gU;rw[←HK.out] at dM bK;obtain⟨k1,cC⟩:∃k1,k+1=k1:=⟨_,rfl⟩;rw[cC] at bK;have y0:wr.cell? ⟨D,k,none⟩=some (.int .i64 pw):=by rw[Gg.out.cell,List.getElem?_toArray,List.getElem?_map,dM];rfl
    have y1:wr.cell? ⟨D,k1,none⟩=some (.int .i64 pf):=by rw[Gg.out.cell,List.getElem?_toArray,List.getElem?_map,bK];rfl
    have vC:k1<10:=by have:=HK.out;omega
    have z1:IntKind.i64.wrap ((k:Int)+1)=(k1:Int):=by rw[IntWalk.i64_in _ (by omega)];omega
    have fS:(0:Int)≤k∧(k:Int)<10:=by omega
    have adF:(0:Int)≤k1∧(k1:Int)<10:=by omega
    have BX:=hide (show Below wr.heap.size wr (wr.drew.alloc (.cells #[.int .i64 pw,.int .i64 pf,.int .i64 0] 237)) from (Below.refl _ _).drew.alloc (Nat.le_refl _) _);have KX:=hide (show ae (wr.drew.alloc (.cells #[.int .i64 pw,.int .i64 pf,.int .i64 0] 237)) wr.heap.size 237 #[.int .i64 pw,.int .i64 pf,.int .i64 0] from ae.new wr.drew 237 _);have Y0:=hide y0;have Y1:=hide y1;have HY:=hide (show (wr.drew.alloc (.cells #[.int .i64 pw,.int .i64 pf,.int .i64 0] 237)).cell? ⟨D,k,none⟩=some (.int .i64 pw)∧(wr.drew.alloc (.cells #[.int .i64 pw,.int .i64 pf,.int .i64 0] 237)).cell? ⟨D,k1,none⟩=some (.int .i64 pf) from⟨(BX.out.cell (bI y0)).trans y0,(BX.out.cell (bI y1)).trans y1⟩);have GV:=hide (fun e=>Yq.out (Eq.symm e));clear hp dM bK cC y0 y1
    go_wp2_with fail
    refine wp_region_held_drew (S:=fun W'=>W'.cell? ⟨D,k,none⟩=some (.int .i64 pw)∧W'.cell? ⟨D,k1,none⟩=some (.int .i64 pf)) (by kernel_rfl) ?_ (fun hHeld=>?_)
    ·(try dsimp only);exact⟨Y0.out,Y1.out⟩
    change wpAnyH _ _ _ _ _ 14 #[false,false,false,false,false,false,false,false,false,false,false,false,false,false] _ _;refine bW (i:=0) (d:=56) (v:=?_) rfl rfl (by kernel_rfl) (by kernel_rfl) (by kernel_rfl) (fun _ _ _ h=>h) (by kernel_rfl) hHeld ?_ ?_;rotate_left
    ·intro w' hSw;obtain⟨z0,z1⟩:=hSw;go_simp
     first|done|with_reducible rfl
    (try simp only[Act.put,List.setIfInBounds_toArray,List.set_cons_zero,List.set_cons_succ]);refine bW (i:=1) (d:=57) (v:=?_) rfl rfl (by kernel_rfl) (by kernel_rfl) (by kernel_rfl) (fun _ _ _ h=>h) (by kernel_rfl) hHeld ?_ ?_;rotate_left
    ·intro w' hSw;obtain⟨z0,z1⟩:=hSw;go_simp
     first|done|with_reducible rfl
    (try simp only[Act.put,List.setIfInBounds_toArray,List.set_cons_zero,List.set_cons_succ]);refine bW (i:=2) (d:=58) (v:=?_) rfl rfl (by kernel_rfl) (by kernel_rfl) (by kernel_rfl) (fun _ _ _ h=>h) (by kernel_rfl) hHeld ?_ ?_;rotate_left
    ·intro w' hSw;obtain⟨z0,z1⟩:=hSw;go_simp
     first|done|with_reducible rfl
    (try simp only[Act.put,List.setIfInBounds_toArray,List.set_cons_zero,List.set_cons_succ]);refine bW (i:=3) (d:=59) (v:=?_) rfl rfl (by kernel_rfl) (by kernel_rfl) (by kernel_rfl) (fun _ _ _ h=>h) (by kernel_rfl) hHeld ?_ ?_;rotate_left
    ·intro w' hSw;obtain⟨z0,z1⟩:=hSw;go_simp
     first|done|with_reducible rfl
    (try simp only[Act.put,List.setIfInBounds_toArray,List.set_cons_zero,List.set_cons_succ]);refine bW (i:=4) (d:=60) (v:=?_) rfl rfl (by kernel_rfl) (by kernel_rfl) (by kernel_rfl) (fun _ _ _ h=>h) (by kernel_rfl) hHeld ?_ ?_;rotate_left
    ·intro w' hSw;obtain⟨z0,z1⟩:=hSw;go_simp
     first|done|with_reducible rfl
    (try simp only[Act.put,List.setIfInBounds_toArray,List.set_cons_zero,List.set_cons_succ]);refine bW (i:=5) (d:=61) (v:=?_) rfl rfl (by kernel_rfl) (by kernel_rfl) (by kernel_rfl) (fun _ _ _ h=>h) (by kernel_rfl) hHeld ?_ ?_;rotate_left
    ·intro w' hSw;obtain⟨z0,z1⟩:=hSw;go_simp
     first|done|with_reducible rfl
    (try simp only[Act.put,List.setIfInBounds_toArray,List.set_cons_zero,List.set_cons_succ]);refine bW (i:=6) (d:=62) (v:=?_) rfl rfl (by kernel_rfl) (by kernel_rfl) (by kernel_rfl) (fun _ _ _ h=>h) (by kernel_rfl) hHeld ?_ ?_;rotate_left
    ·intro w' hSw;obtain⟨z0,z1⟩:=hSw;go_simp
     first|done|with_reducible rfl
    (try simp only[Act.put,List.setIfInBounds_toArray,List.set_cons_zero,List.set_cons_succ]);refine bW (i:=7) (d:=63) (v:=?_) rfl rfl (by kernel_rfl) (by kernel_rfl) (by kernel_rfl) (fun _ _ _ h=>h) (by kernel_rfl) hHeld ?_ ?_;rotate_left
    ·intro w' hSw;obtain⟨z0,z1⟩:=hSw;go_simp
     first|done|with_reducible rfl
    (try simp only[Act.put,List.setIfInBounds_toArray,List.set_cons_zero,List.set_cons_succ]);refine bW (i:=8) (d:=64) (v:=?_) rfl rfl (by kernel_rfl) (by kernel_rfl) (by kernel_rfl) (fun _ _ _ h=>h) (by kernel_rfl) hHeld ?_ ?_;rotate_left
    ·intro w' hSw;obtain⟨z0,z1⟩:=hSw;go_simp
     first|done|with_reducible rfl
    (try simp only[Act.put,List.setIfInBounds_toArray,List.set_cons_zero,List.set_cons_succ]);refine bW (i:=9) (d:=65) (v:=?_) rfl rfl (by kernel_rfl) (by kernel_rfl) (by kernel_rfl) (fun _ _ _ h=>h) (by kernel_rfl) hHeld ?_ ?_;rotate_left
    ·intro w' hSw;obtain⟨z0,z1⟩:=hSw;go_simp
     first|done|with_reducible rfl
    (try simp only[Act.put,List.setIfInBounds_toArray,List.set_cons_zero,List.set_cons_succ]);refine bW (i:=10) (d:=66) (v:=?_) rfl rfl (by kernel_rfl) (by kernel_rfl) (by kernel_rfl) (fun _ _ _ h=>h) (by kernel_rfl) hHeld ?_ ?_;rotate_left
    ·intro w' hSw;obtain⟨z0,z1⟩:=hSw;go_simp
     first|done|with_reducible rfl
    (try simp only[Act.put,List.setIfInBounds_toArray,List.set_cons_zero,List.set_cons_succ]);refine jr (i:=11) rfl (by kernel_rfl) (by kernel_rfl) (fun K hK=>?_);go_simp;(try dsimp only);refine hK.out _ _ ?_ (fun bc=>?_)
    ·(try dsimp only);exact⟨(BX.out.cell (bI Y0.out)).trans Y0.out,(BX.out.cell (bI Y1.out)).trans Y1.out⟩
    clear hK K hHeld;have hHeld:=bc;clear bc;(try simp only[Act.put,List.setIfInBounds_toArray,List.set_cons_zero,List.set_cons_succ]);refine jr (i:=12) rfl (by kernel_rfl) (by kernel_rfl) (fun K hK=>?_);refine age _ (by rfl) _ _ _ (by rfl) (w.heap.size+12) 237 _ 3 24 Tryz.underlying234 pU (by rfl) (by omega) (.slice A3 (m+j) c3) (m+j) _ (by rfl) (yp cf.out BX.out) [.int .i64 pw,.int .i64 pf,.int .i64 0] rfl (by intro u hu;simp at hu;rcases hu with rfl|rfl|rfl<;>rfl) wr.heap.size KX.out (by rfl) (by unfold maxLen;omega) (by omega) (Nat.le_trans mq BX.out.size) ?_;intro g8 dx kP aN aF cY;have cL:=hide aN;have dH:=hide aF;clear aN aF cY;(try dsimp only);refine hK.out _ _ ?_ (fun bc=>?_)
    ·(try dsimp only);exact⟨(dH.out.cell HY.out.1 GV.out),(dH.out.cell HY.out.2 GV.out)⟩
    clear hK K hHeld;have hHeld:=bc;clear bc;(try simp only[Act.put,List.setIfInBounds_toArray,List.set_cons_zero,List.set_cons_succ]);refine bW (i:=13) (d:=1) (v:=?_) rfl rfl (by kernel_rfl) (by kernel_rfl) (by kernel_rfl) (fun _ _ _ h=>h) (by kernel_rfl) hHeld ?_ ?_;rotate_left
    ·intro w' hSw;obtain⟨z0,z1⟩:=hSw;go_simp
     first|done|with_reducible rfl
    (try simp only[Act.put,List.setIfInBounds_toArray,List.set_cons_zero,List.set_cons_succ]);refine wpAnyH_done (by kernel_rfl) ?_ _;go_wp2
    go_roundg (5-(j+1))
    case measure=>have:=Zc.out;omega
    case rel=>
     have RH:ae kP D 3 (Nf.mX.map (Value.int .i64)).toArray:=(Gg.out.go BX.out).grown dH.out GV.out;have Ed:Below w.heap.size w kP:=(ax.out.trans (BX.out.mono ax.out.size)).grown dH.out (ax.out.trans (BX.out.mono ax.out.size)).size (fun j' e=>by have:=(aI cf.out j' e).1;omega)
     have hp:bL (LL++Nf.oa.take (j+1))=bL (LL++Nf.oa.take j)++[.int .i64 pw,.int .i64 pf,.int .i64 0]:=by
      rw[uy.out,←List.append_assoc,yr];rfl
     exact⟨j+1,k+2,some ⟨g8,0,none⟩,dx,rfl,by omega,by have:=HK.out;omega,by first|rfl|go_num,by rw[Nat.add_assoc],by rw[hp,←Nat.add_assoc];exact cL.out,RH,Ed,Nat.le_trans mq (Nat.le_trans BX.out.size dH.out.size),dc (by rw[←Nat.add_assoc];exact cL.out) RH (by decide)⟩
   have adA:j=5:=by omega
   have adD:k=10:=by have:=HK.out;omega
   subst adA;subst adD;have hl:Nf.iE.length=m+5:=by rw[←HE.out,List.length_append,←Yk.out,Nf.xg,HM.out];rfl
   have ho:=cf.out;rw[List.take_of_length_le (show Nf.oa.length≤5 from Nat.le_refl _),HE.out] at ho;have sj:=hide (ho.mono (Nat.le_add_right _ 12));have HL:=hide hl;clear ho hl;go_wp2;go_ret;refine⟨⟨A3,c3,by rw[HL.out];rfl,?_⟩,ax.out⟩;rw[HL.out];exact sj.out
end
end Go.Proofs.YtifiiojchlaghaaGreatDoor
