/- Strict: the program's attrs: what a start's attributes are, and whether two are alike. And more. -/
import Derived.Test.YtpdkeckeekchlaaGreatDoorOt15
set_option linter.unusedSimpArgs false
set_option maxRecDepth 100000
set_option maxHeartbeats 32000000
set_option linter.unusedVariables false
namespace Go.Proofs.YtpdkeckeekchlaaGreatDoor
section
open Go.RowKit Tk Sx

theorem ack(sc:List aB)(l:List bT)(s:bT):cF sc (l++[s])=cF sc l++(if (declares s).2 then [] else [⟨pL sc s,s.val⟩]):=by
 induction l with
 | nil=>simp only[List.nil_append,cF]
 | cons x l ih=>
  rw[List.cons_append,cF,cF,ih];split
  ·rfl
  rfl
theorem aci(sc:List aB)(l:List bT)(s:bT):∀seen:List Nm,jk sc seen (l++[s])=(jk sc seen l).or (if (declares s).2 then none else if (vA sc s).2=false∨pL sc s∈seen++(cF sc l).map (·.name) then some s.at_ else none):=by
 induction l with
 | nil=>intro seen;simp only[List.nil_append,jk,cF,List.map_nil,List.append_nil,Option.none_or]
 | cons x l ih=>
  intro seen;rw[List.cons_append,jk,jk,cF]
  by_cases hd:(declares x).2=true
  ·rw[if_pos hd,if_pos hd,if_pos hd,ih]
  rw[if_neg hd,if_neg hd,if_neg hd]
  by_cases hb:(vA sc x).2=false∨pL sc x∈seen
  ·rw[if_pos hb,if_pos hb];rfl
  rw[if_neg hb,if_neg hb,ih,List.map_cons,List.append_assoc];rfl
theorem acj(sc:List aB)(l:List bT):(cF sc l).length≤l.length:=by
 induction l with
 | nil=>simp[cF]
 | cons x l ih=>
  rw[cF];split
  ·simp;omega
  simp;omega
theorem aiA(bd:bS)(x:Option Nat)(a:Nat):za (bd.or (cW x)) a 50=bd.or (cW (x.or (some a))):=by cases bd<;>cases x<;>rfl
theorem aca(a:ft):(ml a).length=3:=rfl
theorem acr(l:List ft)(a:ft):jl (l++[a])=jl l++ml a:=by simp[jl]
theorem acd(a:ft):∀u∈ml a,u.oneCell'=true:=by
 intro u hu;simp only[ml,List.mem_cons,List.not_mem_nil,or_false] at hu
 rcases hu with rfl|rfl|rfl<;>rfl
theorem alO{sc:List aB}{p:L}(h:∀d∈sc,d.ns.length≤1000000000):(lY sc p).1.length≤1000000000:=by
 unfold lY;split
 ·decide
 unfold uv
 cases hf:(sc.take sc.length).reverse.find? fun d=>decide (d.pre=p) with
 | none=>simp
 | some d=>
  have:=List.mem_of_find?_eq_some hf;rw[List.mem_reverse] at this;exact h d (List.mem_of_mem_take this)
theorem W8{P:Program}{o:Oper}{a:Act}{K:Act→World→Prop}{Q:Exit→Act→World→Prop}(W:World)(hgd:o.guard=none)(s x:Operand)(t:TypeId)(ho:o.op=.call { callee:=.builtin .append,args:=#[s,x],argTypes:=#[t,t] })
  (base:Nat) (e:TypeId) (z:Value) (size bytes:Nat) (ht:P.underlying t=some (.slice e)) (eL:(P.info? e).map (fun i=>(i.zero,i.size,i.bytes))=some (some z,size,bytes))
  (hzs:z.cells.size=size) (hsz:0<size) (v:Value) (n:Nat) (xs:List Value) (hs:a.eval s=v) (hown:W.ownsRow base e size v n xs)
  (cs:List Value) (hcs:cs.length=size) (h1:∀u∈cs,u.oneCell'=true) (H:Nat) (hH:ae W H e cs.toArray) (hx:a.eval x=.slice (some ⟨H,0,none⟩) 1 1)
  (h63:n+1≤maxLen) (hbytes:(n+1)*bytes≤140737488355328) (hbase:base≤W.heap.size)
  (h:∀g cap w',w'.ownsRow base e size (.slice (some ⟨g,0,none⟩) (n+1) cap) (n+1) (xs++cs)→W.grownBy w' v.ownBlock→g<w'.heap.size→K (a.put o.dst (.slice (some ⟨g,0,none⟩) (n+1) cap)) w'):Oper.wp P o a W K Q:=by
 have hh:=GU (ops:=#[]) (Q:=Q) (E:=True) W hgd s x t ho base e z size bytes ht eL hzs hsz v n xs hs hown cs hcs h1 H hH hx h63 hbytes hbase h;rw[if_pos (by simp[Region.wanted,hgd])] at hh;exact hh
theorem PI.agZ{B P Z:Nat}{w w':World}{st:St}{b:bS}{v:Pv}{row:Option Nat}(h:PI B P w st b v)(h0:∀x∈v.xs,∀a,x.A=some a→a.block<Z)(hg:w.grownBy w' row)
  (hr:∀k,row=some k→Z≤k∧∀t∈[107,140,187,79,115],¬bN w k t):PI B P w' st b v:=by
 have hb:∀{k t:Nat},bN w k t→t∈[107,140,187,79,115]→w'.heap[k]?=w.heap[k]?:=fun {k t} hk ht=>hg.block k hk.lt fun e=>(hr k e.symm).2 t ht hk
 have ho:∀{e size n:Nat} {v:Value} {xs:List Value},w.ownsRow B e size v n xs→e∈[107,140,187,79,115]→w'.ownsRow B e size v n xs:=fun {e size n v xs} hw he=>hw.kept hg (by
  cases hv:v.ownBlock with
  | none=>exact .inl rfl
  | some k=>exact .inr fun e1=>(hr k e1.symm).2 e he (aD hw k hv).2)
 refine⟨(hb h.blk.fh (by simp)).trans h.blk,h.bp,ho h.o (by simp),ho h.s (by simp),ho h.e (by simp),h.ev,fun x hx=>?_,?_⟩
 ·have hi:=h.gU x hx;have sa:∀a,x.A=some a→w'.heap[a.block]?=w.heap[a.block]?:=fun a ha=>hg.block _ (hi.ta a ha).lt fun e=>by have:=(hr _ e.symm).1;have:=h0 x hx a ha;omega
  exact⟨hi.a.same sa hg.size,hi.va,hi.ta.same sa⟩
 have h1:=h.bad;unfold gJ at h1 ⊢
 cases b with
 | none=>exact h1
 | some x=>
  obtain⟨F,q1,q2,q3⟩:=h1;exact⟨F,q1,q2,(hb q3.fh (by simp)).trans q3⟩
def Zw(B P:Nat)(w:World)(st:St)(bd:bS)(v:Pv)(ss:List bT)(e:Ending)(w':World):Prop :=
 ∃vb A c,e=.returned (.slice A (cF st.scope ss).length c)∧PI B P w' st (bd.or (cW (jk st.scope [] ss))) ⟨v.Ao,v.co,v.As,v.cs,v.Ae,v.ce,vb,v.xs⟩∧
  w'.ownsRow w.heap.size 155 3 (.slice A (cF st.scope ss).length c) (cF st.scope ss).length (jl (cF st.scope ss))∧ai P w w'
def Rg(B P N Mb:Nat)(w:World)(st:St)(bd:bS)(v:Pv)(nm:Nm)(A:Option Addr)(c m n:Nat)(ar:List ft)(D:DataW Unit)(seen:List Nm)(W:World):Prop :=
 ∃vb,PI B P W st bd ⟨v.Ao,v.co,v.As,v.cs,v.Ae,v.ce,vb,v.xs⟩∧ae W N 75 #[.string (aa nm.ns),.string (aa nm.loc)]∧W.ownsRow w.heap.size 155 3 (.slice A m c) m (jl ar)∧fu W Mb n seen D∧ai P w W

theorem acm(B P base:Nat)(w:World)(st:St)(bd:bS)(v:Pv)(ss:List bT)(Al:Option Addr)(cl:Nat)(h:PI B P w st bd v)(hB:B≤w.heap.size)
  (hl:w.ownsRow base 185 4 (.slice Al ss.length cl) ss.length (cS ss)) (hn:ss.length≤100000000) (hs:st.scope.length≤1000000000) (hsm:∀s∈ss,s.loc.length≤1000000000) (pZ:∀d∈st.scope,d.ns.length≤1000000000) :
  Calls Tryz.prog 80 #[.pointer (some ⟨P,0,none⟩),.slice Al ss.length cl] w (Zw B P w st bd v ss):=by
 have H:=ap h;have HB:=ap hB;have Hl:=ap hl;have Hs:=ap hs;have mZ:=ap hsm;have DT:=ap pZ;obtain⟨n,bC⟩:∃n,ss.length=n:=⟨_,rfl⟩;rw[bC] at hn Hl ⊢;have HN:=ap bC;have gD:=@run_makeMap Tryz.prog;have C0:=ap (acR w);have I1:=ap (h.go (ay w (.map #[] 0)));have Ld:P≠w.heap.size:=by have:=h.blk.lt;omega
 have B1:=ap (ai.b8 (R:=P) (ay w (.map #[] 0)));obtain⟨Mb,vS⟩:∃Mb,w.heap.size=Mb:=⟨_,rfl⟩;have Dp:=ap vS;rw[vS] at C0 Ld;have PZ:=ap Ld;clear h hB hl bC hs hsm pZ Ld vS
 go_enter Tryz.func80,Tryz.ntmps80
 go_wp2;rw[Dp.o];clear gD
 go_loopg [16,4] n (fun gk vk vl wr=>∃(k:Nat) (vb:Value) (A:Option Addr) (c:Nat) (D:DataW Unit),gk=n-k∧k≤n∧vk=.int .i64 (k:Int)∧vl=.slice A (cF st.scope (ss.take k)).length c∧
  PI B P wr st (bd.or (cW (jk st.scope [] (ss.take k)))) ⟨v.Ao,v.co,v.As,v.cs,v.Ae,v.ce,vb,v.xs⟩∧
  wr.ownsRow w.heap.size 155 3 (.slice A (cF st.scope (ss.take k)).length c) (cF st.scope (ss.take k)).length (jl (cF st.scope (ss.take k)))∧fu wr Mb (cF st.scope (ss.take k)).length ((cF st.scope (ss.take k)).map (·.name)) D∧ai P w wr)
 case atStart=>exact⟨0,_,none,0,_,rfl,by omega,rfl,rfl,by rw[List.take_zero,jk];simpa[cW] using I1.o,World.ownsRow_nil _ _ _ _,C0.o,B1.o⟩
 case round=>
  obtain⟨k,vb,A,c,D,au,hk,rfl,rfl,h1,h2,h3,h4⟩:=hrel;have Hg:=ap au;have H1:=ap h1;have H2:=ap h2;have H3:=ap h3;have H4:=ap h4;clear au h1 h2 h3 h4 C0 I1 B1
  by_cases hlt:k<n
  ·obtain⟨s,hs⟩:∃s,ss[k]?=some s:=⟨_,List.getElem?_eq_getElem (by rw[HN.o];exact hlt)⟩;have eh:k<ss.length:=by rw[HN.o];exact hlt
   have O1:=ap (bD.own (B:=0) (T:=[]) (.fl H4.o) Hl.o H.o.blk (by decide) (by simp));obtain⟨lg,lc,kI,fc,lM⟩:=O1.o.form (by omega);have mr:Al=some ⟨lg,0,none⟩:=by injection kI
   subst mr;cases kI;have Sp:=ap (GS O1.o HN.o hs);have wK:IntKind.i64.wrap ((k:Int)+1)=(k:Int)+1:=IntWalk.i64_in _ (by omega);have iy:ss.take (k+1)=ss.take k++[s]:=by rw[List.take_succ_eq_append_getElem eh,(List.getElem?_eq_some_iff.1 hs).2]
   have fw:=ap (show cF st.scope (ss.take (k+1))=cF st.scope (ss.take k)++(if (declares s).2 then [] else [⟨pL st.scope s,s.val⟩]) by rw[iy];exact ack _ _ _);have a8:=ap (show jk st.scope [] (ss.take (k+1))=(jk st.scope [] (ss.take k)).or (if (declares s).2 then none else if (vA st.scope s).2=false∨pL st.scope s∈(cF st.scope (ss.take k)).map (·.name) then some s.at_ else none) by rw[iy];exact aci _ _ _ _);have HD:=ap (SD s wr lg (k*4) Sp.o);have qX:=ap (show w.heap.size≤wr.heap.size from H4.o.size);have HSl:=ap (show s.loc.length≤1000000000 from mZ.o s (List.mem_of_getElem? hs));have eV:=ap (show (cF st.scope (ss.take k)).length≤k by have:=acj st.scope (ss.take k);rw[List.length_take] at this;omega);have QU:=ap hs;obtain⟨⟨dp,is⟩,hd⟩:∃d,declares s=d:=⟨_,rfl⟩;rw[hd] at fw a8 HD;dsimp only at fw a8;unfold lX at HD;dsimp only at HD;obtain⟨ar,has⟩:∃ar,cF st.scope (ss.take k)=ar:=⟨_,rfl⟩;obtain⟨bx,fI⟩:∃bx,jk st.scope [] (ss.take k)=bx:=⟨_,rfl⟩;rw[has] at fw a8 H2 H3 eV;rw[fI] at H1 a8;rw[has];obtain⟨m,hm⟩:∃m,ar.length=m:=⟨_,rfl⟩;have Hm:=ap hm;rw[hm] at H2 H3 eV ⊢;clear iy hs eh hd has fI hm
   cases is with
   | true=>
    go_wp2_with fail
    refine HD.o.mono ?_;rintro e w2 ⟨rfl,b2⟩;have I2:=ap (H1.o.go b2);have M2:=ap (H4.o.go b2);have O2:=ap (fo H2.o b2);have C2:=ap (H3.o.go b2);clear b2;go_wp2
    go_roundg (n-(k+1))
    case measure=>have:=Hg.o;omega
    case rel=>
     have e1:cF st.scope (ss.take (k+1))=ar:=by rw[fw.o];simp
     refine⟨k+1,vb,A,c,D,rfl,by omega,by first|rfl|go_num,?_,?_,?_,?_,M2.o⟩
     ·rw[e1,Hm.o]
     ·rw[a8.o];simpa using I2.o
     ·rw[e1,Hm.o];exact O2.o
     rw[e1,Hm.o];exact C2.o
   | false=>
    obtain⟨sp,hsp⟩:∃sp,vA st.scope s=sp:=⟨_,rfl⟩;have L1:pL st.scope s=⟨sp.1,s.loc⟩:=by unfold pL;rw[hsp]
    rw[L1,hsp] at a8;rw[L1] at fw;have an3:=ap hsp;unfold vA at hsp;have q1:=F8 s.pre;have q2:=EK s.pre;have QV:=ap (fun (e:s.pre=[])=>(show sp=([],true) by rw[←hsp,if_pos e]));have QW:=ap (fun (e:s.pre≠[])=>(show lY st.scope s.pre=sp by rw[←hsp,if_neg e]))
    have ie:=ap (show gM ⟨sp.1,s.loc⟩ from⟨by
     by_cases e:s.pre=[]
     ·rw[QV.o e];simp
     rw[←QW.o e];exact alO DT.o,HSl.o⟩)
    obtain⟨ep,LA⟩:∃ep,decide (s.pre=[])=ep:=⟨_,rfl⟩;rw[LA] at q1 q2;have Qy:=ap LA;clear hsp L1 LA
    go_upto_if 37 with (go_at_call 115;refine HD.o.mono ?_;rintro e w2 ⟨rfl,b2⟩;have u0:=(b2.cell (p:=⟨lg,k*4,none⟩) lM).trans Sp.o.c0;have u1:=(b2.cell (p:=⟨lg,k*4+1,none⟩) lM).trans Sp.o.c1;have UR:lg<w2.heap.size:=Nat.lt_of_lt_of_le lM b2.size;have B2:=ap b2;clear b2)
    obtain⟨rh,Um⟩:∃rh,bd.or (cW (bx.or (if sp.2=false then some s.at_ else none)))=rh:=⟨_,rfl⟩;have xB:=ap Um;clear Um
    go_cut [] (fun wx=>Rg B P w2.heap.size Mb w st rh v ⟨sp.1,s.loc⟩ A c m m ar D (ar.map (·.name)) wx)
    case first=>
     have TT:Mb<w2.heap.size:=by have:=H3.o.own.lt;have:=B2.o.size;omega
     have I2:=ap (H1.o.go B2.o);have O2:=ap (fo H2.o B2.o);have C2:=ap (H3.o.go B2.o);have M2:=ap (H4.o.go B2.o);have ba:=ay w2 (.cells #[.string ⟨#[]⟩,.string (aa s.loc)] 75);have KN:=ap (ae.new w2 75 #[.string ⟨#[]⟩,.string (aa s.loc)]);have I3:=ap (I2.o.go ba);have O3:=ap (fo O2.o ba);have C3:=ap (C2.o.go ba);have M3:=ap (M2.o.go ba);have BA:=ap ba;have uR:=ap TT;clear ba TT
     cases ep with
     | true=>
      have e:=QV.o (of_decide_eq_true Qy.o);subst e;have ak:rh=bd.or (cW bx):=by rw[←xB.o];simp
      have I3':=ap (show PI B P (w2.alloc (.cells #[.string ⟨#[]⟩,.string (aa s.loc)] 75)) st rh ⟨v.Ao,v.co,v.As,v.cs,v.Ae,v.ce,vb,v.xs⟩ by rw[ak];exact I3.o);clear ak xB;go_wp2;(try simp only[Exit.then]);(try refine Met.intro ?_)
      first
       | (rename_i hJ;refine hJ _ _ ?_)
       | (rename_i hJ hT;refine hJ _ _ ?_)
       | (rename_i hJ hT aW;refine hJ _ _ ?_)
       | (rename_i hJ hT aW cH;refine hJ _ _ ?_)
      (repeat apply Exists.intro);refine⟨?_,rfl⟩;exact⟨vb,I3'.o,KN.o,O3.o,C3.o,M3.o⟩
     | false=>
      have e:=QW.o (of_decide_eq_false Qy.o);have bt:=ap (Ym v.As v.cs (w2.alloc (.cells #[.string ⟨#[]⟩,.string (aa s.loc)] 75)).drew.heap.size st.scope s.pre (w2.alloc (.cells #[.string ⟨#[]⟩,.string (aa s.loc)] 75)).drew (Reads.cY (show (w2.alloc (.cells #[.string ⟨#[]⟩,.string (aa s.loc)] 75)).drew.ownsRow _ _ _ _ _ _ from I3.o.s)) (Nat.le_refl _) Hs.o);rw[e] at bt;unfold lX at bt;have pP:=I2.o.blk.lt;have cs1:=I2.o.c1;dsimp only at cs1;have u3:=(B2.o.cell (p:=⟨lg,k*4+3,none⟩) lM).trans Sp.o.c3;clear e
      cases sp with
      | mk spu spo=>
      dsimp only at bt
      cases spo with
      | true=>
       have ak:rh=bd.or (cW bx):=by rw[←xB.o];simp
       have uZ:=ap ak;clear ak;go_wp2
       go_region_with (go_at_call 79;refine bt.o.mono ?_;rintro e w4 ⟨rfl,b4⟩)
       all_goals
        have kh:=(Below.refl _ (w2.alloc (.cells #[.string ⟨#[]⟩,.string (aa s.loc)] 75))).drew.trans b4;have I4:=ap (I3.o.go kh);have O4:=ap (fo O3.o kh);have C4:=ap (C3.o.go kh);have M4:=ap (M3.o.go kh);have K4:=ap (KN.o.go kh);have n0:w4.cell? ⟨w2.heap.size,0,none⟩=some (.string ⟨#[]⟩):=K4.o.cell 0;have Th:=K4.o.frozen 0;have u3':=(kh.cell (p:=⟨lg,k*4+3,none⟩) (by simp;omega)).trans ((BA.o.cell (p:=⟨lg,k*4+3,none⟩) UR).trans u3);clear b4 kh;go_wp2;(try simp only[Exit.then]);(try refine Met.intro ?_)
        first
         | (rename_i hJ;refine hJ _ _ ?_)
         | (rename_i hJ hT;refine hJ _ _ ?_)
         | (rename_i hJ hT aW;refine hJ _ _ ?_)
         | (rename_i hJ hT aW cH;refine hJ _ _ ?_)
        (repeat apply Exists.intro);refine⟨?_,rfl⟩;exact⟨vb,by rw[uZ.o];exact I4.o.far (p:=⟨w2.heap.size,0,none⟩) K4.o (by decide) _,K4.o.aH 0 _,dN (p:=⟨w2.heap.size,0,none⟩) O4.o K4.o (by decide) _,C4.o.set (by have:=uR.o;show Mb≠w2.heap.size;omega) _,M4.o.setCell (p:=⟨w2.heap.size,0,none⟩) (.inr (by have:=qX.o;have:=B2.o.size;show w.heap.size≤w2.heap.size;omega)) _⟩
      | false=>
       have ak:rh=bd.or (cW (bx.or (some s.at_))):=by rw[←xB.o];simp
       have uZ:=ap ak;clear ak;go_wp2
       go_region_with (go_at_call 79;refine bt.o.mono ?_;rintro e w4 ⟨rfl,b4⟩)
       all_goals
        have kh:=(Below.refl _ (w2.alloc (.cells #[.string ⟨#[]⟩,.string (aa s.loc)] 75))).drew.trans b4;have I4:=ap (I3.o.go kh);have O4:=ap (fo O3.o kh);have C4:=ap (C3.o.go kh);have M4:=ap (M3.o.go kh);have K4:=ap (KN.o.go kh);have n0:w4.cell? ⟨w2.heap.size,0,none⟩=some (.string ⟨#[]⟩):=K4.o.cell 0;have Th:=K4.o.frozen 0;have u3':=(kh.cell (p:=⟨lg,k*4+3,none⟩) (by simp;omega)).trans ((BA.o.cell (p:=⟨lg,k*4+3,none⟩) UR).trans u3);clear b4 kh;have HW:=ap (uA B P w4 st _ _ s.at_ 50 I4.o (Nat.le_trans HB.o M4.o.size))
        go_wp2_with fail
        refine HW.o.mono ?_;rintro e w5 ⟨vb5,rfl,h1,h2⟩;have I5:=ap h1;have K5:=ap (h2.blk K4.o (by omega));have O5:=ap (bD.own (B:=0) (T:=[]) (.fl h2) O4.o I4.o.blk (by decide) (by simp));have C5:=ap (C4.o.but h2 PZ.o.symm);have M5:=ap (M4.o.trans h2);have n0':w5.cell? ⟨w2.heap.size,0,none⟩=some (.string ⟨#[]⟩):=K5.o.cell 0;have aoj:=K5.o.frozen 0;clear h1 h2 n0 Th;dsimp only
        rename_i cG
        refine cG _ _ ?_;clear cG;go_wp2;(try simp only[Exit.then]);(try refine Met.intro ?_)
        first
         | (rename_i hJ;refine hJ _ _ ?_)
         | (rename_i hJ hT;refine hJ _ _ ?_)
         | (rename_i hJ hT aW;refine hJ _ _ ?_)
         | (rename_i hJ hT aW cH;refine hJ _ _ ?_)
        (repeat apply Exists.intro);refine⟨?_,rfl⟩;exact⟨vb5,by rw[uZ.o,←aiA];exact I5.o.far (p:=⟨w2.heap.size,0,none⟩) K5.o (by decide) _,K5.o.aH 0 _,dN (p:=⟨w2.heap.size,0,none⟩) O5.o K5.o (by decide) _,C5.o.set (by have:=uR.o;show Mb≠w2.heap.size;omega) _,M5.o.setCell (p:=⟨w2.heap.size,0,none⟩) (.inr (by have:=qX.o;have:=B2.o.size;show w.heap.size≤w2.heap.size;omega)) _⟩
    case rest=>
     obtain⟨vb1,i1,k1,o1,c1,m1⟩:=hcut;obtain⟨nm,cD⟩:∃nm:Nm,(⟨sp.1,s.loc⟩:Nm)=nm:=⟨_,rfl⟩;rw[cD] at k1 a8 fw ie;have an0:=ap cD;have I1:=ap i1;have K1:=ap k1;have Rh:=ap o1;have C1:=ap c1;have M1:=ap m1;obtain⟨seen,wG⟩:∃seen,ar.map (·.name)=seen:=⟨_,rfl⟩;rw[wG] at C1 a8;have aaF:=ap wG;obtain⟨q,hq⟩:∃q,seen.count nm=q:=⟨_,rfl⟩;have Hq:=ap hq;have Vg:q≤m:=by rw[←hq,←wG,←Hm.o];exact Nat.le_trans List.count_le_length (by rw[List.length_map];exact Nat.le_refl _)
     have HQm:=ap Vg;have Hq0:=ap (show q=0↔nm∉seen by rw[←hq];exact List.count_eq_zero);have hkey:=yH ie.o;unfold nR at hkey;have FK:IntKind.i64.wrap ((q:Int)+1)=(q:Int)+1:=IntWalk.i64_in _ (by have:=eV.o;omega);obtain⟨v0,est,w1,lO,hg1,FI,rE,nG,hst⟩:=aiK (w:=wc.drew) (show wc.drew.ownsMap _ _ _ _ _ _ from C1.o.own) MI Tryz.underlying188 Tryz.underlying3 sw (by unfold maxLen;have:=eV.o;omega) hkey
     have hv0:v0=.int .i64 (q:Int):=by
      obtain⟨cc,r1,a1,_⟩:=(show wc.drew.ownsMap _ _ _ _ _ _ from C1.o.own).lookup_int Gg Tryz.underlying188 Tryz.underlying3 (sw _) hkey;rw[nG] at r1;simp only[Result.ok.injEq,and_true] at r1;rw[r1,C1.o.wN ie.o Hq.o a1]
     subst hv0;obtain⟨w3,hes,b7,bz⟩:=hst (.int .i64 ((q:Int)+1)) _ [] (plainElem_int Tryz.underlying3 (WalkArith.wf_i64 (by have:=eV.o;omega))) w1 rfl;have BF:wc.grownBy w3 (some Mb):=⟨bz.os.trans hg1.os,bz.tape.trans hg1.tape,bz.output.trans hg1.output,Nat.le_trans hg1.size bz.size,fun j hj hne=>(bz.block j (Nat.lt_of_lt_of_le hj hg1.size) hne).trans (hg1.block j hj hne)⟩;obtain⟨es,cle,Fc⟩:=C1.o.block;have Dq:w2.heap.size≠Mb:=fun e=>uo Fc (by rw[←e];exact K1.o.fh);have I3:=ap (I1.o.kept BF (fun j hj t' _=>by cases hj;exact uo Fc));have O3:=ap (Rh.o.kept BF (.inr (Nk Rh.o Fc)));have K3:=ap (K1.o.grown BF (fun e=>Dq (by injection e)));have C3:=ap (acQ C1.o ie.o Hq.o b7);have M3:=ap (M1.o.grown BF (fun j hj=>by cases hj;rw[Dp.o];exact Nat.le_refl _));have Z9:=ap lO;have Z8:=ap hes;have Zr:w1.cell? ⟨w2.heap.size,0,none⟩=some (.string (aa nm.ns)):=hg1.cell (show wc.drew.cell? ⟨w2.heap.size,0,none⟩=_ from K1.o.cell 0) (fun e=>Dq (by injection e));have Zs:w1.cell? ⟨w2.heap.size,1,none⟩=some (.string (aa nm.loc)):=hg1.cell (show wc.drew.cell? ⟨w2.heap.size,1,none⟩=_ from K1.o.cell 1) (fun e=>Dq (by injection e))
     have kX:=ap (show (Instr.lookup 188 (.map (some Mb)) (.agg #[.string (aa nm.ns),.string (aa nm.loc)]) false).run Tryz.prog wc.drew=.ok (.int .i64 (q:Int)) wc.drew∧wc.drew.cell? ⟨w2.heap.size,0,none⟩=some (.string (aa nm.ns))∧wc.drew.cell? ⟨w2.heap.size,1,none⟩=some (.string (aa nm.loc)) from⟨nG,K1.o.cell 0,K1.o.cell 1⟩);have qF:=ap (show (Instr.lookup 188 (.map (some Mb)) (.agg #[.string (aa nm.ns),.string (aa nm.loc)]) false).run Tryz.prog w1=.ok (.int .i64 (q:Int)) w1∧w1.cell? ⟨w2.heap.size,0,none⟩=some (.string (aa nm.ns))∧w1.cell? ⟨w2.heap.size,1,none⟩=some (.string (aa nm.loc)) from⟨rE,Zr,Zs⟩);clear i1 k1 o1 c1 m1 cD wG hq Vg hkey lO hes hg1 bz BF rE nG hst b7 Fc Zr Zs FI Dq
     go_upto_region 14 with fail
     go_cut [] (fun wx=>wx=w3)
     case first=>
      obtain⟨l0,z0,z1⟩:=kX.o;obtain⟨l1,y0,y1⟩:=qF.o;have lO:=Z9.o;have hes:=Z8.o
      go_region
      all_goals
       (try simp only[Exit.then])
       first
        | (rename_i hJ hM;refine hM _ _ (Met.intro ?_);refine hJ _ _ ?_)
        | (refine Met.intro ?_;rename_i hJ;refine hJ _ _ ?_)
       (repeat apply Exists.intro);exact⟨rfl,rfl⟩
     case rest=>
      have bj:=hcut.symm;clear hcut;subst bj;have rH:((q+1:Nat):Int)=(q:Int)+1:=by omega
      obtain⟨AG,Bj⟩:∃AG,bd.or (cW (jk st.scope [] (ss.take (k+1))))=AG:=⟨_,rfl⟩;have Jh:=ap Bj;have z0:=K3.o.cell 0;have z1:=K3.o.cell 1;have hkey:=ap (yH ie.o);have xE:=ap (show (seen++[nm]).count nm=q+1 by rw[List.count_append,List.count_singleton,beq_self_eq_true,Hq.o];rfl);clear Bj rH;obtain⟨D2,TE⟩:∃D2:DataW Unit,D.put (gF nm) (.lit (.int .i64 ((q:Int)+1)))=D2:=⟨_,rfl⟩;rw[TE] at C3;have Rs:=GS (bD.own (B:=0) (T:=[]) (.fl M3.o) Hl.o H.o.blk (by decide) (by simp)) HN.o QU.o;have u3:=Rs.c3
      have iL:=ap (fun (e:nm∈seen)=>(show AG=za rh s.at_ 50 by
       rw[←Jh.o,a8.o,←xB.o];simp only[Bool.false_eq_true,if_false,e,or_true,if_true]
       cases sp.2<;>cases bx<;>cases bd<;>rfl))
      have Jf:=ap (fun (e:¬nm∈seen)=>(show AG=rh by
       rw[←Jh.o,a8.o,←xB.o];simp only[Bool.false_eq_true,if_false,e,or_false]))
      obtain⟨gt,LI⟩:∃gt,decide (nm∈seen)=gt:=⟨_,rfl⟩
      have fV:decide ((1:Int)<(q:Int)+1)=gt:=by
       rw[←LI,Bool.eq_iff_iff,decide_eq_true_iff,decide_eq_true_iff];have:=Hq0.o
       constructor
       ·intro h;by_cases e:nm∈seen
        ·exact e
        have:=this.2 e;omega
       intro h;have:q≠0:=fun e=>this.1 e h;omega
      have PD:=ap LI;clear TE Rs LI
      go_upto_if 69 with (at_lookup;refine wpList_lookup_own_int _ (by rfl) _ _ 188 (by rfl) 75 3 .i64 Gg Tryz.underlying188 Tryz.underlying3 (sw _) Mb (m+1) _ (by rfl) C3.o.own _ _ (by rfl) hkey.o ?_;intro c1 hat gT;clear gT;have cR:c1=((q+1:Nat):Int):=C3.o.wN ie.o xE.o hat;rw[show ((q+1:Nat):Int)=(q:Int)+1 by omega] at cR;subst cR;clear hat)
      go_cut [] (fun wx=>Rg B P w2.heap.size Mb w st AG v nm A c m (m+1) ar D2 (seen++[nm]) wx)
      case first=>
       clear fV
       cases gt with
       | true=>
        have Jg:=ap (iL.o (of_decide_eq_true PD.o));have HW:=ap (uA B P w3 st _ _ s.at_ 50 I3.o (Nat.le_trans HB.o M3.o.size))
        go_wp2_with fail
        refine HW.o.mono ?_;rintro e w4 ⟨On,rfl,h1,h2⟩;have I4:=ap h1;have K4:=ap (h2.blk K3.o (by have:=I3.o.blk.lt;intro e;exact gV K3.o.fh (by rw[e];exact I3.o.blk.fh) (by decide)));have O4:=ap (bD.own (B:=0) (T:=[]) (.fl h2) O3.o I3.o.blk (by decide) (by simp));have C4:=ap (C3.o.but h2 PZ.o.symm);have M4:=ap (M3.o.trans h2);clear h1 h2;dsimp only
        rename_i cG
        refine cG _ _ ?_;clear cG;go_wp2;(try simp only[Exit.then]);(try refine Met.intro ?_)
        first
         | (rename_i hJ;refine hJ _ _ ?_)
         | (rename_i hJ hT;refine hJ _ _ ?_)
         | (rename_i hJ hT aW;refine hJ _ _ ?_)
         | (rename_i hJ hT aW cH;refine hJ _ _ ?_)
        (repeat apply Exists.intro);refine⟨?_,rfl⟩;exact⟨On,by rw[Jg.o];exact I4.o,K4.o,O4.o,C4.o,M4.o⟩
       | false=>
        have Jg:=ap (Jf.o (of_decide_eq_false PD.o));go_wp2;(try simp only[Exit.then]);(try refine Met.intro ?_)
        first
         | (rename_i hJ;refine hJ _ _ ?_)
         | (rename_i hJ hT;refine hJ _ _ ?_)
         | (rename_i hJ hT aW;refine hJ _ _ ?_)
         | (rename_i hJ hT aW cH;refine hJ _ _ ?_)
        (repeat apply Exists.intro);refine⟨?_,rfl⟩;exact⟨vb1,by rw[Jg.o];exact I3.o,K3.o,O3.o,C3.o,M3.o⟩
      case rest=>
       rename_i wc
       obtain⟨On,i4,k4,o4,c4,m4⟩:=hcut;have I4:=ap i4;have O4:=ap o4;have C4:=ap c4;have M4:=ap m4;have y0:=k4.cell 0;have y1:=k4.cell 1;have Rt:=GS (bD.own (B:=0) (T:=[]) (.fl M4.o) Hl.o H.o.blk (by decide) (by simp)) HN.o QU.o;have u2:=Rt.c2;have Rl:=bD.own (B:=0) (T:=[]) (.fl M4.o) Hl.o H.o.blk (by decide) (by simp)
       obtain⟨apN,UO⟩:∃cur,ae wc lg 185 cur:=by
        rcases Rl.2 with ⟨h,_⟩|⟨g',c',cur,h,_,hh,_⟩
        ·cases h
        cases h;exact⟨cur,hh⟩
       have N4:=ap k4;have L4:=ap UO;clear Rl UO;have e1:=ap (show cF st.scope (ss.take (k+1))=ar++[⟨nm,s.val⟩] by rw[fw.o];simp);have Hwk:=ap wK;clear i4 k4 o4 c4 m4 Rt C3 I3 O3 K3 M3 z0 z1 u3 FK;have Y0:=ap y0;have Y1:=ap y1;have U2:=ap u2;have Bi:Below wc.heap.size wc (wc.drew.alloc (.cells (ml ⟨nm,s.val⟩).toArray 155)):=(Below.refl _ _).drew.alloc (Nat.le_refl _) _;have BX:=ap Bi;have KX:=ap (show ae (wc.drew.alloc (.cells (ml ⟨nm,s.val⟩).toArray 155)) wc.heap.size 155 (ml ⟨nm,s.val⟩).toArray from ae.new wc.drew 155 _)
       have DB:=ap (show (wc.drew.alloc (.cells (ml ⟨nm,s.val⟩).toArray 155)).cell? ⟨w2.heap.size,0,none⟩=some (.string (aa nm.ns))∧(wc.drew.alloc (.cells (ml ⟨nm,s.val⟩).toArray 155)).cell? ⟨w2.heap.size,1,none⟩=some (.string (aa nm.loc))∧(wc.drew.alloc (.cells (ml ⟨nm,s.val⟩).toArray 155)).cell? ⟨lg,k*4+2,none⟩=some (.string (aa s.val)) from
        ⟨(Bi.cell (dE y0)).trans y0,(Bi.cell (dE y1)).trans y1,(Bi.cell (dE u2)).trans u2⟩)
       clear Bi;go_wp2;refine wp_region_held_drew (S:=fun W'=>W'.cell? ⟨w2.heap.size,0,none⟩=some (.string (aa nm.ns))∧W'.cell? ⟨w2.heap.size,1,none⟩=some (.string (aa nm.loc))∧W'.cell? ⟨lg,k*4+2,none⟩=some (.string (aa s.val))) (by kernel_rfl) ?_ (fun hHeld=>?_)
       ·exact⟨Y0.o,Y1.o,U2.o⟩
       change wpAnyH _ _ _ _ _ 10 #[false,false,false,false,false,false,false,false,false,false] _ _;iterate 7 (refine aJ (v:=?_) rfl rfl hHeld ?_ ?_;rotate_left;(· (intro w' hSw;obtain⟨l0,z0,z1⟩:=hSw;go_simp;try with_reducible rfl));(try simp only[nx,List.set]))
       refine fU (i:=7) rfl (by kernel_rfl) (by kernel_rfl) (fun K hK=>?_);go_simp;(try dsimp only);refine hK.out _ _ ?_ (fun aL=>?_)
       ·exact DB.o
       clear hK K hHeld;have hHeld:=aL;clear aL;(try simp only[Act.put,List.setIfInBounds_toArray,List.set_cons_zero,List.set_cons_succ]);refine fU (i:=8) rfl (by kernel_rfl) (by kernel_rfl) (fun K hK=>?_);refine W8 _ (by rfl) _ _ _ (by rfl) w.heap.size 155 _ 3 48 Tryz.underlying77 agL (by rfl) (by omega) (.slice A m c) m (jl ar) (by rfl) (fo O4.o BX.o) (ml ⟨nm,s.val⟩) rfl (acd _) wc.heap.size KX.o (by rfl) (by unfold maxLen;have:=eV.o;omega) (by have:=eV.o;omega) (Nat.le_trans M4.o.size BX.o.size) ?_;intro g8 dw w8 aP aG cX;have cU:=ap aP;have eC:=ap aG;clear aP aG cX;(try dsimp only);refine hK.out _ _ ?_ (fun aL=>?_)
       ·have LX:some w2.heap.size≠(Value.slice A m c).ownBlock:=fun e=>bR (fo O4.o BX.o) (N4.o.go BX.o) (by decide) e.symm;have hnL:some lg≠(Value.slice A m c).ownBlock:=fun e=>bR (fo O4.o BX.o) (L4.o.go BX.o) (by decide) e.symm;exact⟨eC.o.cell DB.o.1 LX,eC.o.cell DB.o.2.1 LX,eC.o.cell DB.o.2.2 hnL⟩
       clear hK K hHeld;have hHeld:=aL;clear aL;(try simp only[Act.put,List.setIfInBounds_toArray,List.set_cons_zero,List.set_cons_succ]);(refine aJ (v:=?_) rfl rfl hHeld ?_ ?_;rotate_left;(· (intro w' hSw;obtain⟨l0,z0,z1⟩:=hSw;go_simp;try with_reducible rfl));(try simp only[nx,List.set]));refine wpAnyH_done (by kernel_rfl) ?_ _;go_wp2
       go_roundg (n-(k+1))
       case measure=>have:=Hg.o;omega
       case rel=>
        obtain⟨SM,Sm,Bu⟩:=(fu.go C4.o BX.o).block;have ah:=fun j hj=>aD (fo O4.o BX.o) j hj;have e2:(cF st.scope (ss.take (k+1))).length=m+1:=by rw[e1.o,List.length_append,Hm.o];rfl
        refine⟨k+1,On,some ⟨g8,0,none⟩,dw,D2,rfl,by omega,by first|rfl|go_num,by rw[e2],?_,?_,?_,?_⟩
        ·rw[Jh.o];exact (I4.o.go BX.o).agZ (Z:=w.heap.size) (fun x hx a ha=>((H.o.gU x hx).ta a ha).lt) eC.o (fun j hj=>⟨(ah j hj).1,fun t' rO hT=>gV (ah j hj).2 hT (by intro e;subst e;revert rO;decide)⟩)
        ·rw[e2,e1.o,acr];exact cU.o
        ·rw[e2,e1.o,List.map_append,aaF.o];exact (fu.go C4.o BX.o).kept eC.o (fun e=>uo Bu (ah Mb e.symm).2)
        exact (M4.o.go BX.o).grown eC.o (fun j hj=>(ah j hj).1)
  have hall:k=n:=by omega
  subst hall;have e1:ss.take k=ss:=List.take_of_length_le (by rw[HN.o];exact Nat.le_refl _);have I:=ap H1.o;have O:=ap H2.o;rw[e1] at I O;rw[e1];clear e1;go_wp2;go_ret;exact⟨vb,A,c,rfl,I.o,O.o,H4.o⟩
end
section
open Go.RowKit Tk Sx

namespace Sx
def dX(st:St)(t:Tok):List aB:=if (jV t.attrs).isNone then scope' st t else st.scope
def b1(t:Tok):Option Nat:=(jV t.attrs).or (iO (splits t))
def sf(sc:List aB)(t:Tok):Option Nat:=if (lY sc (jB t)).2=false∨jB t=kR then some t.at_ else none
def b3(st:St)(t:Tok):Option Nat:=((b1 t).or (sf (dX st t) t)).or (jk (dX st t) [] (splits t))
def EJ(st:St)(t:Tok)(sc:List aB):El:=⟨t.name,⟨(lY sc (jB t)).1,nN t⟩,st.scope.length⟩
def xV(t:Tok)(sc:List aB):Ev:=⟨0,⟨(lY sc (jB t)).1,nN t⟩,cF sc (splits t),[]⟩
def zn(st:St)(t:Tok)(sc:List aB):St:=⟨st.open_++[EJ st t sc],sc,dO st.evs (xV t sc),true⟩
theorem ahj(st:St)(t:Tok):late st t=b3 st t:=by
 unfold late b3 b1 dX
 cases hv:jV t.attrs with
 | some a=>simp
 | none=>
  simp only[Option.isNone_none,if_true,Option.none_or]
  cases hd:iO (splits t) with
  | some a=>simp
  | none=>
   simp only[Option.none_or];unfold sf;split
   ·simp
   simp
theorem ald{st:St}{t:Tok}(h:b3 st t=none):dX st t=scope' st t:=by
 unfold b3 b1 at h;unfold dX
 cases hv:jV t.attrs with
 | some a=>rw[hv] at h;simp at h
 | none=>rfl
theorem al6{st:St}{t:Tok}(h:b3 st t=none):zn st t (dX st t)=started st t:=by rw[ald h];rfl
end Sx
theorem PI.c4{B P:Nat}{w:World}{st:St}{b:bS}{v:Pv}(h:PI B P w st b v):w.cell? ⟨P,4,none⟩=some v.vb:=h.blk.cell 4
theorem PI.c3{B P:Nat}{w:World}{st:St}{b:bS}{v:Pv}(h:PI B P w st b v):w.cell? ⟨P,3,none⟩=some (.bool st.gI):=h.blk.cell 3
theorem PI.uy{B P:Nat}{w:World}{st:St}{v:Pv}(h:PI B P w st none v):v.vb=.pointer none:=h.bad
theorem PI.xc{B P:Nat}{w:World}{st:St}{x:Nat×Nat}{v:Pv}(h:PI B P w st (some x) v):∃F,v.vb=.pointer (some ⟨F,0,none⟩):=by
 obtain⟨F,_,h2,_⟩:=h.bad;exact⟨F,h2⟩

theorem al3(B P:Nat)(w:World)(st:St)(v:Pv)(b o:Nat)(t:Tok)(eP:Option Addr)(ct:Nat)(h:PI B P w st none v)(hB:B≤w.heap.size)(h6:6≤B)(hg:Gl w)(ht:rb B w b o t)
  (iV:w.cell? ⟨b,o+2,none⟩=some (.slice eP t.attrs.length ct)) (hr:Reads w B 3 eP t.attrs.length (lz (t.attrs.map At.g))) (hn:t.attrs.length≤100000000) (ub:t.name.length≤1000000000) (hv:∀a∈t.attrs,a.name.length≤1000000000)
  (x:Nat×Nat) (he:Sx.early st t=some x) :
  Calls Tryz.prog 49 #[.pointer (some ⟨P,0,none⟩),.pointer (some ⟨b,o,none⟩)] w (q9 B P w (.error x)):=by
 have eQ:=ap (WI B P w st v b o t eP ct h hB h6 hg ht iV hr hn ub hv);have H:=ap h;have HB:=ap hB;have Ht:=ap ht;have Vq:=ap iV;unfold Sx.early at he;clear h hB h6 hg ht hr hv ub iV
 cases cD:names t with
 | some a=>
  rw[cD] at he;simp only[Option.some.injEq] at he;subst he;have mY:=ap cD;clear cD
  go_enter Tryz.func49,Tryz.ntmps49
  go_wp2_with fail
  refine eQ.o.mono ?_;rintro e w1 ⟨vb,Al,cl,rfl,h1,h2,h3⟩;rw[mY.o] at h1;obtain⟨F,hF⟩:=PI.xc (x:=(a,50)) h1;have c4:=h1.c4;rw[hF] at c4;have I1:=ap h1;have M1:=ap (aF.fl (B:=B) h3);clear h1 h2 h3 hF;go_wp2;go_end0;exact⟨rfl,M1.o,_,_,I1.o⟩
 | none=>
  rw[cD] at he;dsimp only at he;have mY:=ap cD;obtain⟨no,hno⟩:∃no,st.open_.length=no:=⟨_,rfl⟩;obtain⟨na,dh⟩:∃na,t.attrs.length=na:=⟨_,rfl⟩;obtain⟨ro,hro⟩:∃ro,st.gI=ro:=⟨_,rfl⟩;have fB:=ap hno;have eK:=ap dh;have jE:=ap hro;have Lz:st.open_.isEmpty=decide (no=0):=by rw[←hno];cases st.open_<;>simp
  rw[hro,Lz,dh,hno] at he;have sS:=Vq;clear cD hno dh hro Lz hn Vq
  by_cases c1:ro=true∧no=0
  ·obtain⟨r1,r2⟩:=c1;subst r1 r2;simp only[decide_true,Bool.and_true,if_true,Option.some.injEq] at he;subst he
   go_enter Tryz.func49,Tryz.ntmps49
   go_wp2_with fail
   refine eQ.o.mono ?_;rintro e w1 ⟨vb,Al,cl,rfl,h1,h2,h3⟩;rw[mY.o] at h1;replace h1:PI B P w1 st none ⟨v.Ao,v.co,v.As,v.cs,v.Ae,v.ce,vb,v.xs⟩:=h1;have ak:=h3.below (B:=B) H.o.bp HB.o;have c4:=h1.c4;rw[h1.uy] at c4;have c0:=h1.c;have c3:=h1.c3;rw[fB.o] at c0;rw[jE.o] at c3;have t5:=(ak.cell (p:=⟨b,o+5,none⟩) Ht.o.lt).trans Ht.o.c5;have t2:=(ak.cell (p:=⟨b,o+2,none⟩) Ht.o.lt).trans sS.o;rw[eK.o] at t2;have I1:=ap (show PI B P w1 st none ⟨v.Ao,v.co,v.As,v.cs,v.Ae,v.ce,vb,v.xs⟩ from h1);have M1:=ap (aF.fl (B:=B) h3);have HW:=ap (pq B P w1 st none _ t.at_ 50 I1.o (Nat.le_trans HB.o h3.size));clear h1 h2 h3 ak
   go_wp2_with fail
   refine HW.o.mono ?_;rintro e w2 ⟨G5,rfl,h1,h2⟩;obtain⟨F,hF⟩:=PI.xc (x:=(t.at_,50)) h1;have rj:=h1.c4;rw[hF] at rj;have I2:=ap h1;have M2:=ap (M1.o.trans h2);clear h1 h2 hF c4 c0 c3;dsimp only
   rename_i cG
   refine cG _ _ ?_;clear cG;go_wp2;go_end0;exact⟨rfl,M2.o,_,_,I2.o⟩
  rw[if_neg (by simp;intro e h;exact c1 ⟨e,h⟩)] at he
  have Ft:ro=false∨(ro=true∧0<no):=by
   cases ro with
   | false=>exact .inl rfl
   | true=>exact .inr ⟨rfl,Nat.pos_of_ne_zero fun e=>c1 ⟨rfl,e⟩⟩
  clear c1
  by_cases c2:16<na
  ·rw[if_pos c2] at he;simp only[Option.some.injEq] at he;subst he
   rcases Ft with r1|⟨r1,r2⟩
   ·subst r1
    go_enter Tryz.func49,Tryz.ntmps49
    go_wp2_with fail
    refine eQ.o.mono ?_;rintro e w1 ⟨vb,Al,cl,rfl,h1,h2,h3⟩;rw[mY.o] at h1;replace h1:PI B P w1 st none ⟨v.Ao,v.co,v.As,v.cs,v.Ae,v.ce,vb,v.xs⟩:=h1;have ak:=h3.below (B:=B) H.o.bp HB.o;have c4:=h1.c4;rw[h1.uy] at c4;have c0:=h1.c;have c3:=h1.c3;rw[fB.o] at c0;rw[jE.o] at c3;have t5:=(ak.cell (p:=⟨b,o+5,none⟩) Ht.o.lt).trans Ht.o.c5;have t2:=(ak.cell (p:=⟨b,o+2,none⟩) Ht.o.lt).trans sS.o;rw[eK.o] at t2;have I1:=ap (show PI B P w1 st none ⟨v.Ao,v.co,v.As,v.cs,v.Ae,v.ce,vb,v.xs⟩ from h1);have M1:=ap (aF.fl (B:=B) h3);have HW:=ap (pq B P w1 st none _ t.at_ 42 I1.o (Nat.le_trans HB.o h3.size));clear h1 h2 h3 ak
    go_wp2_with fail
    refine HW.o.mono ?_;rintro e w2 ⟨G5,rfl,h1,h2⟩;obtain⟨F,hF⟩:=PI.xc (x:=(t.at_,42)) h1;have rj:=h1.c4;rw[hF] at rj;have I2:=ap h1;have M2:=ap (M1.o.trans h2);clear h1 h2 hF c4 c0 c3;dsimp only
    rename_i cG
    refine cG _ _ ?_;clear cG;go_wp2;go_end0;exact⟨rfl,M2.o,_,_,I2.o⟩
   subst r1;have r3:((no:Int)==0)=false:=by rw[beq_eq_false_iff_ne];omega
   go_enter Tryz.func49,Tryz.ntmps49
   go_wp2_with fail
   refine eQ.o.mono ?_;rintro e w1 ⟨vb,Al,cl,rfl,h1,h2,h3⟩;rw[mY.o] at h1;replace h1:PI B P w1 st none ⟨v.Ao,v.co,v.As,v.cs,v.Ae,v.ce,vb,v.xs⟩:=h1;have ak:=h3.below (B:=B) H.o.bp HB.o;have c4:=h1.c4;rw[h1.uy] at c4;have c0:=h1.c;have c3:=h1.c3;rw[fB.o] at c0;rw[jE.o] at c3;have t5:=(ak.cell (p:=⟨b,o+5,none⟩) Ht.o.lt).trans Ht.o.c5;have t2:=(ak.cell (p:=⟨b,o+2,none⟩) Ht.o.lt).trans sS.o;rw[eK.o] at t2;have I1:=ap (show PI B P w1 st none ⟨v.Ao,v.co,v.As,v.cs,v.Ae,v.ce,vb,v.xs⟩ from h1);have M1:=ap (aF.fl (B:=B) h3);have HW:=ap (pq B P w1 st none _ t.at_ 42 I1.o (Nat.le_trans HB.o h3.size));clear h1 h2 h3 ak
   go_wp2_with fail
   refine HW.o.mono ?_;rintro e w2 ⟨G5,rfl,h1,h2⟩;obtain⟨F,hF⟩:=PI.xc (x:=(t.at_,42)) h1;have rj:=h1.c4;rw[hF] at rj;have I2:=ap h1;have M2:=ap (M1.o.trans h2);clear h1 h2 hF c4 c0 c3;dsimp only
   rename_i cG
   refine cG _ _ ?_;clear cG;go_wp2;go_end0;exact⟨rfl,M2.o,_,_,I2.o⟩
  rw[if_neg c2] at he
  by_cases J2:no=16
  ·rw[if_pos J2] at he;simp only[Option.some.injEq] at he;subst he J2
   rcases Ft with r1|⟨r1,r2⟩
   ·subst r1
    go_enter Tryz.func49,Tryz.ntmps49
    go_wp2_with fail
    refine eQ.o.mono ?_;rintro e w1 ⟨vb,Al,cl,rfl,h1,h2,h3⟩;rw[mY.o] at h1;replace h1:PI B P w1 st none ⟨v.Ao,v.co,v.As,v.cs,v.Ae,v.ce,vb,v.xs⟩:=h1;have ak:=h3.below (B:=B) H.o.bp HB.o;have c4:=h1.c4;rw[h1.uy] at c4;have c0:=h1.c;have c3:=h1.c3;rw[fB.o] at c0;rw[jE.o] at c3;have t5:=(ak.cell (p:=⟨b,o+5,none⟩) Ht.o.lt).trans Ht.o.c5;have t2:=(ak.cell (p:=⟨b,o+2,none⟩) Ht.o.lt).trans sS.o;rw[eK.o] at t2;have I1:=ap (show PI B P w1 st none ⟨v.Ao,v.co,v.As,v.cs,v.Ae,v.ce,vb,v.xs⟩ from h1);have M1:=ap (aF.fl (B:=B) h3);have HW:=ap (pq B P w1 st none _ t.at_ 41 I1.o (Nat.le_trans HB.o h3.size));clear h1 h2 h3 ak
    go_wp2_with fail
    refine HW.o.mono ?_;rintro e w2 ⟨G5,rfl,h1,h2⟩;obtain⟨F,hF⟩:=PI.xc (x:=(t.at_,41)) h1;have rj:=h1.c4;rw[hF] at rj;have I2:=ap h1;have M2:=ap (M1.o.trans h2);clear h1 h2 hF c4 c0 c3;dsimp only
    rename_i cG
    refine cG _ _ ?_;clear cG;go_wp2;go_end0;exact⟨rfl,M2.o,_,_,I2.o⟩
   subst r1
   go_enter Tryz.func49,Tryz.ntmps49
   go_wp2_with fail
   refine eQ.o.mono ?_;rintro e w1 ⟨vb,Al,cl,rfl,h1,h2,h3⟩;rw[mY.o] at h1;replace h1:PI B P w1 st none ⟨v.Ao,v.co,v.As,v.cs,v.Ae,v.ce,vb,v.xs⟩:=h1;have ak:=h3.below (B:=B) H.o.bp HB.o;have c4:=h1.c4;rw[h1.uy] at c4;have c0:=h1.c;have c3:=h1.c3;rw[fB.o] at c0;rw[jE.o] at c3;have t5:=(ak.cell (p:=⟨b,o+5,none⟩) Ht.o.lt).trans Ht.o.c5;have t2:=(ak.cell (p:=⟨b,o+2,none⟩) Ht.o.lt).trans sS.o;rw[eK.o] at t2;have I1:=ap (show PI B P w1 st none ⟨v.Ao,v.co,v.As,v.cs,v.Ae,v.ce,vb,v.xs⟩ from h1);have M1:=ap (aF.fl (B:=B) h3);have HW:=ap (pq B P w1 st none _ t.at_ 41 I1.o (Nat.le_trans HB.o h3.size));clear h1 h2 h3 ak
   go_wp2_with fail
   refine HW.o.mono ?_;rintro e w2 ⟨G5,rfl,h1,h2⟩;obtain⟨F,hF⟩:=PI.xc (x:=(t.at_,41)) h1;have rj:=h1.c4;rw[hF] at rj;have I2:=ap h1;have M2:=ap (M1.o.trans h2);clear h1 h2 hF c4 c0 c3;dsimp only
   rename_i cG
   refine cG _ _ ?_;clear cG;go_wp2;go_end0;exact⟨rfl,M2.o,_,_,I2.o⟩
  rw[if_neg J2] at he;cases he
end
end Go.Proofs.YtpdkeckeekchlaaGreatDoor
