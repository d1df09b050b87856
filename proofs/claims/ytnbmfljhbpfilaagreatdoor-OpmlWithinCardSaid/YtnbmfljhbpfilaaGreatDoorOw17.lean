/- Strict: the program's attrs: what a start's attributes are, and whether two are alike. And more. -/
import Derived.Test.YtnbmfljhbpfilaaGreatDoorOw16
import Derived.Deep.DeepCutAuto
set_option linter.unusedSimpArgs false
set_option maxRecDepth 100000
set_option maxHeartbeats 32000000
set_option linter.unusedVariables false
namespace Go.Proofs.YtnbmfljhbpfilaaGreatDoor
section
open Go.RowKit Tk Sx

theorem abU(sc:List ax)(l:List bS)(s:bS):cz sc (l++[s])=cz sc l++(if (declares s).2 then [] else [⟨oZ sc s,s.val⟩]):=by
 induction l with
 | nil=>simp only[List.nil_append,cz]
 | cons x l ih=>
  rw[List.cons_append,cz,cz,ih];split
  ·rfl
  rfl
theorem abS(sc:List ax)(l:List bS)(s:bS):∀seen:List Nm,iW sc seen (l++[s])=(iW sc seen l).or (if (declares s).2 then none else if (uG sc s).2=false∨oZ sc s∈seen++(cz sc l).map (·.name) then some s.at_ else none):=by
 induction l with
 | nil=>intro seen;simp only[List.nil_append,iW,cz,List.map_nil,List.append_nil,Option.none_or]
 | cons x l ih=>
  intro seen;rw[List.cons_append,iW,iW,cz]
  by_cases hd:(declares x).2=true
  ·rw[if_pos hd,if_pos hd,if_pos hd,ih]
  rw[if_neg hd,if_neg hd,if_neg hd]
  by_cases hb:(uG sc x).2=false∨oZ sc x∈seen
  ·rw[if_pos hb,if_pos hb];rfl
  rw[if_neg hb,if_neg hb,ih,List.map_cons,List.append_assoc];rfl
theorem abT(sc:List ax)(l:List bS):(cz sc l).length≤l.length:=by
 induction l with
 | nil=>simp[cz]
 | cons x l ih=>
  rw[cz];split
  ·simp;omega
  simp;omega
theorem ah6(bd:bR)(x:Option Nat)(a:Nat):yB (bd.or (cZ x)) a 50=bd.or (cZ (x.or (some a))):=by cases bd<;>cases x<;>rfl
theorem abL(a:eZ):(l8 a).length=3:=rfl
theorem ab2(l:List eZ)(a:eZ):iX (l++[a])=iX l++l8 a:=by simp[iX]
theorem abN(a:eZ):∀u∈l8 a,u.oneCell'=true:=by
 intro u hu;simp only[l8,List.mem_cons,List.not_mem_nil,or_false] at hu
 rcases hu with rfl|rfl|rfl<;>rfl
theorem ak7{sc:List ax}{p:L}(h:∀d∈sc,d.ns.length≤1000000000):(lQ sc p).1.length≤1000000000:=by
 unfold lQ;split
 ·decide
 unfold tJ
 cases hf:(sc.take sc.length).reverse.find? fun d=>decide (d.pre=p) with
 | none=>simp
 | some d=>
  have:=List.mem_of_find?_eq_some hf;rw[List.mem_reverse] at this;exact h d (List.mem_of_mem_take this)
theorem Wv{P:Program}{o:Oper}{a:Act}{K:Act→World→Prop}{Q:Exit→Act→World→Prop}(W:World)(hgd:o.guard=none)(s x:Operand)(t:TypeId)(ho:o.op=.call { callee:=.builtin .append,args:=#[s,x],argTypes:=#[t,t] })
  (base:Nat) (e:TypeId) (z:Value) (size bytes:Nat) (ht:P.underlying t=some (.slice e)) (fw:(P.info? e).map (fun i=>(i.zero,i.size,i.bytes))=some (some z,size,bytes))
  (hzs:z.cells.size=size) (hsz:0<size) (v:Value) (n:Nat) (xs:List Value) (hs:a.eval s=v) (hown:W.ownsRow base e size v n xs)
  (cs:List Value) (hcs:cs.length=size) (h1:∀u∈cs,u.oneCell'=true) (H:Nat) (hH:ae W H e cs.toArray) (hx:a.eval x=.slice (some ⟨H,0,none⟩) 1 1)
  (h63:n+1≤maxLen) (hbytes:(n+1)*bytes≤140737488355328) (hbase:base≤W.heap.size)
  (h:∀g cap w',w'.ownsRow base e size (.slice (some ⟨g,0,none⟩) (n+1) cap) (n+1) (xs++cs)→W.grownBy w' v.ownBlock→g<w'.heap.size→K (a.put o.dst (.slice (some ⟨g,0,none⟩) (n+1) cap)) w'):Oper.wp P o a W K Q:=by
 have hh:=F7 (ops:=#[]) (Q:=Q) (E:=True) W hgd s x t ho base e z size bytes ht fw hzs hsz v n xs hs hown cs hcs h1 H hH hx h63 hbytes hbase h;rw[if_pos (by simp[Region.wanted,hgd])] at hh;exact hh
theorem PI.agG{B P Z:Nat}{w w':World}{st:St}{b:bR}{v:Pv}{row:Option Nat}(h:PI B P w st b v)(h0:∀x∈v.xs,∀a,x.A=some a→a.block<Z)(hg:w.grownBy w' row)
  (hr:∀k,row=some k→Z≤k∧∀t∈[77,107,151,50,85],¬bO w k t):PI B P w' st b v:=by
 have hb:∀{k t:Nat},bO w k t→t∈[77,107,151,50,85]→w'.heap[k]?=w.heap[k]?:=fun {k t} hk ht=>hg.block k hk.lt fun e=>(hr k e.symm).2 t ht hk
 have ho:∀{e size n:Nat} {v:Value} {xs:List Value},w.ownsRow B e size v n xs→e∈[77,107,151,50,85]→w'.ownsRow B e size v n xs:=fun {e size n v xs} hw he=>hw.kept hg (by
  cases hv:v.ownBlock with
  | none=>exact .inl rfl
  | some k=>exact .inr fun e1=>(hr k e1.symm).2 e he (aG hw k hv).2)
 refine⟨(hb h.blk.eR (by simp)).trans h.blk,h.bp,ho h.o (by simp),ho h.s (by simp),ho h.e (by simp),h.ev,fun x hx=>?_,?_⟩
 ·have hi:=h.gH x hx;have sa:∀a,x.A=some a→w'.heap[a.block]?=w.heap[a.block]?:=fun a ha=>hg.block _ (hi.ta a ha).lt fun e=>by have:=(hr _ e.symm).1;have:=h0 x hx a ha;omega
  exact⟨hi.a.same sa hg.size,hi.va,hi.ta.same sa⟩
 have h1:=h.bad;unfold gv at h1 ⊢
 cases b with
 | none=>exact h1
 | some x=>
  obtain⟨F,q1,q2,q3⟩:=h1;exact⟨F,q1,q2,(hb q3.eR (by simp)).trans q3⟩
def Y9(B P:Nat)(w:World)(st:St)(bd:bR)(v:Pv)(ss:List bS)(e:Ending)(w':World):Prop :=
 ∃vb A c,e=.returned (.slice A (cz st.scope ss).length c)∧PI B P w' st (bd.or (cZ (iW st.scope [] ss))) ⟨v.Ao,v.co,v.As,v.cs,v.Ae,v.ce,vb,v.xs⟩∧
  w'.ownsRow w.heap.size 122 3 (.slice A (cz st.scope ss).length c) (cz st.scope ss).length (iX (cz st.scope ss))∧ag P w w'
def QI(B P N Mb:Nat)(w:World)(st:St)(bd:bR)(v:Pv)(nm:Nm)(A:Option Addr)(c m n:Nat)(ak:List eZ)(D:DataW Unit)(seen:List Nm)(W:World):Prop :=
 ∃vb,PI B P W st bd ⟨v.Ao,v.co,v.As,v.cs,v.Ae,v.ce,vb,v.xs⟩∧ae W N 45 #[.string (aa nm.ns),.string (aa nm.loc)]∧W.ownsRow w.heap.size 122 3 (.slice A m c) m (iX ak)∧e7 W Mb n seen D∧ag P w W

theorem abV(B P base:Nat)(w:World)(st:St)(bd:bR)(v:Pv)(ss:List bS)(Al:Option Addr)(cl:Nat)(h:PI B P w st bd v)(hB:B≤w.heap.size)
  (hl:w.ownsRow base 149 4 (.slice Al ss.length cl) ss.length (cW ss)) (hn:ss.length≤100000000) (hs:st.scope.length≤1000000000) (hsm:∀s∈ss,s.loc.length≤1000000000) (lC:∀d∈st.scope,d.ns.length≤1000000000) :
  Calls Tryz.prog 59 #[.pointer (some ⟨P,0,none⟩),.slice Al ss.length cl] w (Y9 B P w st bd v ss):=by
 have H:=hide h;have HB:=hide hB;have Hl:=hide hl;have Hs:=hide hs;have Qv:=hide hsm;have C9:=hide lC;obtain⟨n,bz⟩:∃n,ss.length=n:=⟨_,rfl⟩;rw[bz] at hn Hl ⊢;have HN:=hide bz;have jk:=@run_makeMap Tryz.prog;have C0:=hide (acx w);have I1:=hide (h.go (az w (.map #[] 0)));have Kj:P≠w.heap.size:=by have:=h.blk.lt;omega
 have B1:=hide (ag.bX (R:=P) (az w (.map #[] 0)));obtain⟨Mb,uU⟩:∃Mb,w.heap.size=Mb:=⟨_,rfl⟩;have CK:=hide uU;rw[uU] at C0 Kj;have PC:=hide Kj;clear h hB hl bz hs hsm lC Kj uU
 go_enter Tryz.func59,Tryz.ntmps59
 go_wp2;rw[CK.out];clear jk
 go_loopg [16,4] n (fun gk vk vl wr=>∃(k:Nat) (vb:Value) (A:Option Addr) (c:Nat) (D:DataW Unit),gk=n-k∧k≤n∧vk=.int .i64 (k:Int)∧vl=.slice A (cz st.scope (ss.take k)).length c∧
  PI B P wr st (bd.or (cZ (iW st.scope [] (ss.take k)))) ⟨v.Ao,v.co,v.As,v.cs,v.Ae,v.ce,vb,v.xs⟩∧
  wr.ownsRow w.heap.size 122 3 (.slice A (cz st.scope (ss.take k)).length c) (cz st.scope (ss.take k)).length (iX (cz st.scope (ss.take k)))∧e7 wr Mb (cz st.scope (ss.take k)).length ((cz st.scope (ss.take k)).map (·.name)) D∧ag P w wr)
 case atStart=>exact⟨0,_,none,0,_,rfl,by omega,rfl,rfl,by rw[List.take_zero,iW];simpa[cZ] using I1.out,World.ownsRow_nil _ _ _ _,C0.out,B1.out⟩
 case round=>
  obtain⟨k,vb,A,c,D,au,hk,rfl,rfl,h1,h2,h3,h4⟩:=hrel;have Hg:=hide au;have H1:=hide h1;have H2:=hide h2;have H3:=hide h3;have H4:=hide h4;clear au h1 h2 h3 h4 C0 I1 B1
  by_cases hlt:k<n
  ·obtain⟨s,hs⟩:∃s,ss[k]?=some s:=⟨_,List.getElem?_eq_getElem (by rw[HN.out];exact hlt)⟩;have dW:k<ss.length:=by rw[HN.out];exact hlt
   have O1:=hide (bD.own (B:=0) (T:=[]) (.eV H4.out) Hl.out H.out.blk (by decide) (by simp));obtain⟨lg,lc,ko,ki,lz⟩:=O1.out.form (by omega);have qD:Al=some ⟨lg,0,none⟩:=by injection ko
   subst qD;cases ko;have Sp:=hide (F4 O1.out HN.out hs);have vK:IntKind.i64.wrap ((k:Int)+1)=(k:Int)+1:=IntWalk.i64_in _ (by omega);have gY:ss.take (k+1)=ss.take k++[s]:=by rw[List.take_succ_eq_append_getElem dW,(List.getElem?_eq_some_iff.1 hs).2]
   have e8:=hide (show cz st.scope (ss.take (k+1))=cz st.scope (ss.take k)++(if (declares s).2 then [] else [⟨oZ st.scope s,s.val⟩]) by rw[gY];exact abU _ _ _);have aU:=hide (show iW st.scope [] (ss.take (k+1))=(iW st.scope [] (ss.take k)).or (if (declares s).2 then none else if (uG st.scope s).2=false∨oZ st.scope s∈(cz st.scope (ss.take k)).map (·.name) then some s.at_ else none) by rw[gY];exact abS _ _ _ _);have HD:=hide (RX s wr lg (k*4) Sp.out);have qo:=hide (show w.heap.size≤wr.heap.size from H4.out.size);have HSl:=hide (show s.loc.length≤1000000000 from Qv.out s (List.mem_of_getElem? hs));have fS:=hide (show (cz st.scope (ss.take k)).length≤k by have:=abT st.scope (ss.take k);rw[List.length_take] at this;omega);have Qu:=hide hs;obtain⟨⟨dp,is⟩,hd⟩:∃d,declares s=d:=⟨_,rfl⟩;rw[hd] at e8 aU HD;dsimp only at e8 aU;unfold lO at HD;dsimp only at HD;obtain⟨ak,has⟩:∃ak,cz st.scope (ss.take k)=ak:=⟨_,rfl⟩;obtain⟨bx,je⟩:∃bx,iW st.scope [] (ss.take k)=bx:=⟨_,rfl⟩;rw[has] at e8 aU H2 H3 fS;rw[je] at H1 aU;rw[has];obtain⟨m,hm⟩:∃m,ak.length=m:=⟨_,rfl⟩;have Hm:=hide hm;rw[hm] at H2 H3 fS ⊢;clear gY hs dW hd has je hm
   cases is with
   | true=>
    go_wp2_with fail
    refine HD.out.mono ?_;rintro e w2 ⟨rfl,b2⟩;have I2:=hide (H1.out.go b2);have M2:=hide (H4.out.go b2);have O2:=hide (eW H2.out b2);have C2:=hide (H3.out.go b2);clear b2;go_wp2
    go_roundg (n-(k+1))
    case measure=>have:=Hg.out;omega
    case rel=>
     have e1:cz st.scope (ss.take (k+1))=ak:=by rw[e8.out];simp
     refine⟨k+1,vb,A,c,D,rfl,by omega,by first|rfl|go_num,?_,?_,?_,?_,M2.out⟩
     ·rw[e1,Hm.out]
     ·rw[aU.out];simpa using I2.out
     ·rw[e1,Hm.out];exact O2.out
     rw[e1,Hm.out];exact C2.out
   | false=>
    obtain⟨sp,hsp⟩:∃sp,uG st.scope s=sp:=⟨_,rfl⟩;have Ln:oZ st.scope s=⟨sp.1,s.loc⟩:=by unfold oZ;rw[hsp]
    rw[Ln,hsp] at aU;rw[Ln] at e8;have anq:=hide hsp;unfold uG at hsp;have q1:=Fp s.pre;have q2:=DU s.pre;have Qw:=hide (fun (e:s.pre=[])=>(show sp=([],true) by rw[←hsp,if_pos e]));have Qx:=hide (fun (e:s.pre≠[])=>(show lQ st.scope s.pre=sp by rw[←hsp,if_neg e]))
    have wW:=hide (show gP ⟨sp.1,s.loc⟩ from⟨by
     by_cases e:s.pre=[]
     ·rw[Qw.out e];simp
     rw[←Qx.out e];exact ak7 C9.out,HSl.out⟩)
    obtain⟨ep,KO⟩:∃ep,decide (s.pre=[])=ep:=⟨_,rfl⟩;rw[KO] at q1 q2;have Qd:=hide KO;clear hsp Ln KO
    go_upto_if 37 with (go_at_call 92;refine HD.out.mono ?_;rintro e w2 ⟨rfl,b2⟩;have u0:=(b2.cell (p:=⟨lg,k*4,none⟩) lz).trans Sp.out.c0;have u1:=(b2.cell (p:=⟨lg,k*4+1,none⟩) lz).trans Sp.out.c1;have Us:lg<w2.heap.size:=Nat.lt_of_lt_of_le lz b2.size;have B2:=hide b2;clear b2)
    obtain⟨qy,TN⟩:∃qy,bd.or (cZ (bx.or (if sp.2=false then some s.at_ else none)))=qy:=⟨_,rfl⟩;have wQ:=hide TN;clear TN
    go_cut [] (fun wx=>QI B P w2.heap.size Mb w st qy v ⟨sp.1,s.loc⟩ A c m m ak D (ak.map (·.name)) wx)
    case first=>
     have Tr:Mb<w2.heap.size:=by have:=H3.out.own.lt;have:=B2.out.size;omega
     have I2:=hide (H1.out.go B2.out);have O2:=hide (eW H2.out B2.out);have C2:=hide (H3.out.go B2.out);have M2:=hide (H4.out.go B2.out);have ba:=az w2 (.cells #[.string ⟨#[]⟩,.string (aa s.loc)] 45);have KN:=hide (ae.new w2 45 #[.string ⟨#[]⟩,.string (aa s.loc)]);have I3:=hide (I2.out.go ba);have O3:=hide (eW O2.out ba);have C3:=hide (C2.out.go ba);have M3:=hide (M2.out.go ba);have BA:=hide ba;have ui:=hide Tr;clear ba Tr
     cases ep with
     | true=>
      have e:=Qw.out (of_decide_eq_true Qd.out);subst e;have aq:qy=bd.or (cZ bx):=by rw[←wQ.out];simp
      have I3':=hide (show PI B P (w2.alloc (.cells #[.string ⟨#[]⟩,.string (aa s.loc)] 45)) st qy ⟨v.Ao,v.co,v.As,v.cs,v.Ae,v.ce,vb,v.xs⟩ by rw[aq];exact I3.out);clear aq wQ;go_wp2;(try simp only[Exit.then]);(try refine Met.intro ?_)
      first
       | (rename_i hJ;refine hJ _ _ ?_)
       | (rename_i hJ hT;refine hJ _ _ ?_)
       | (rename_i hJ hT aT;refine hJ _ _ ?_)
       | (rename_i hJ hT aT cB;refine hJ _ _ ?_)
      (repeat apply Exists.intro);refine⟨?_,rfl⟩;exact⟨vb,I3'.out,KN.out,O3.out,C3.out,M3.out⟩
     | false=>
      have e:=Qx.out (of_decide_eq_false Qd.out);have br:=hide (XT v.As v.cs (w2.alloc (.cells #[.string ⟨#[]⟩,.string (aa s.loc)] 45)).drew.heap.size st.scope s.pre (w2.alloc (.cells #[.string ⟨#[]⟩,.string (aa s.loc)] 45)).drew (Reads.eH (show (w2.alloc (.cells #[.string ⟨#[]⟩,.string (aa s.loc)] 45)).drew.ownsRow _ _ _ _ _ _ from I3.out.s)) (Nat.le_refl _) Hs.out);rw[e] at br;unfold lO at br;have px:=I2.out.blk.lt;have cs1:=I2.out.c1;dsimp only at cs1;have u3:=(B2.out.cell (p:=⟨lg,k*4+3,none⟩) lz).trans Sp.out.c3;clear e
      cases sp with
      | mk spu spo=>
      dsimp only at br
      cases spo with
      | true=>
       have aq:qy=bd.or (cZ bx):=by rw[←wQ.out];simp
       have uv:=hide aq;clear aq;go_wp2
       go_region_with (go_at_call 58;refine br.out.mono ?_;rintro e w4 ⟨rfl,b4⟩)
       all_goals
        have jY:=(Below.refl _ (w2.alloc (.cells #[.string ⟨#[]⟩,.string (aa s.loc)] 45))).drew.trans b4;have I4:=hide (I3.out.go jY);have O4:=hide (eW O3.out jY);have C4:=hide (C3.out.go jY);have M4:=hide (M3.out.go jY);have K4:=hide (KN.out.go jY);have n0:w4.cell? ⟨w2.heap.size,0,none⟩=some (.string ⟨#[]⟩):=K4.out.cell 0;have SB:=K4.out.frozen 0;have u3':=(jY.cell (p:=⟨lg,k*4+3,none⟩) (by simp;omega)).trans ((BA.out.cell (p:=⟨lg,k*4+3,none⟩) Us).trans u3);clear b4 jY;go_wp2;(try simp only[Exit.then]);(try refine Met.intro ?_)
        first
         | (rename_i hJ;refine hJ _ _ ?_)
         | (rename_i hJ hT;refine hJ _ _ ?_)
         | (rename_i hJ hT aT;refine hJ _ _ ?_)
         | (rename_i hJ hT aT cB;refine hJ _ _ ?_)
        (repeat apply Exists.intro);refine⟨?_,rfl⟩;exact⟨vb,by rw[uv.out];exact I4.out.far (p:=⟨w2.heap.size,0,none⟩) K4.out (by decide) _,K4.out.aI 0 _,dO (p:=⟨w2.heap.size,0,none⟩) O4.out K4.out (by decide) _,C4.out.set (by have:=ui.out;show Mb≠w2.heap.size;omega) _,M4.out.setCell (p:=⟨w2.heap.size,0,none⟩) (.inr (by have:=qo.out;have:=B2.out.size;show w.heap.size≤w2.heap.size;omega)) _⟩
      | false=>
       have aq:qy=bd.or (cZ (bx.or (some s.at_))):=by rw[←wQ.out];simp
       have uv:=hide aq;clear aq;go_wp2
       go_region_with (go_at_call 58;refine br.out.mono ?_;rintro e w4 ⟨rfl,b4⟩)
       all_goals
        have jY:=(Below.refl _ (w2.alloc (.cells #[.string ⟨#[]⟩,.string (aa s.loc)] 45))).drew.trans b4;have I4:=hide (I3.out.go jY);have O4:=hide (eW O3.out jY);have C4:=hide (C3.out.go jY);have M4:=hide (M3.out.go jY);have K4:=hide (KN.out.go jY);have n0:w4.cell? ⟨w2.heap.size,0,none⟩=some (.string ⟨#[]⟩):=K4.out.cell 0;have SB:=K4.out.frozen 0;have u3':=(jY.cell (p:=⟨lg,k*4+3,none⟩) (by simp;omega)).trans ((BA.out.cell (p:=⟨lg,k*4+3,none⟩) Us).trans u3);clear b4 jY;have HW:=hide (tN B P w4 st _ _ s.at_ 50 I4.out (Nat.le_trans HB.out M4.out.size))
        go_wp2_with fail
        refine HW.out.mono ?_;rintro e w5 ⟨vb5,rfl,h1,h2⟩;have I5:=hide h1;have K5:=hide (h2.blk K4.out (by omega));have O5:=hide (bD.own (B:=0) (T:=[]) (.eV h2) O4.out I4.out.blk (by decide) (by simp));have C5:=hide (C4.out.but h2 PC.out.symm);have M5:=hide (M4.out.trans h2);have n0':w5.cell? ⟨w2.heap.size,0,none⟩=some (.string ⟨#[]⟩):=K5.out.cell 0;have anI:=K5.out.frozen 0;clear h1 h2 n0 SB;dsimp only
        rename_i cA
        refine cA _ _ ?_;clear cA;go_wp2;(try simp only[Exit.then]);(try refine Met.intro ?_)
        first
         | (rename_i hJ;refine hJ _ _ ?_)
         | (rename_i hJ hT;refine hJ _ _ ?_)
         | (rename_i hJ hT aT;refine hJ _ _ ?_)
         | (rename_i hJ hT aT cB;refine hJ _ _ ?_)
        (repeat apply Exists.intro);refine⟨?_,rfl⟩;exact⟨vb5,by rw[uv.out,←ah6];exact I5.out.far (p:=⟨w2.heap.size,0,none⟩) K5.out (by decide) _,K5.out.aI 0 _,dO (p:=⟨w2.heap.size,0,none⟩) O5.out K5.out (by decide) _,C5.out.set (by have:=ui.out;show Mb≠w2.heap.size;omega) _,M5.out.setCell (p:=⟨w2.heap.size,0,none⟩) (.inr (by have:=qo.out;have:=B2.out.size;show w.heap.size≤w2.heap.size;omega)) _⟩
    case rest=>
     obtain⟨vb1,i1,k1,o1,c1,m1⟩:=hcut;obtain⟨nm,cR⟩:∃nm:Nm,(⟨sp.1,s.loc⟩:Nm)=nm:=⟨_,rfl⟩;rw[cR] at k1 aU e8 wW;have anm:=hide cR;have I1:=hide i1;have K1:=hide k1;have QJ:=hide o1;have C1:=hide c1;have M1:=hide m1;obtain⟨seen,vG⟩:∃seen,ak.map (·.name)=seen:=⟨_,rfl⟩;rw[vG] at C1 aU;have aak:=hide vG;obtain⟨q,hq⟩:∃q,seen.count nm=q:=⟨_,rfl⟩;have Hq:=hide hq;have UN:q≤m:=by rw[←hq,←vG,←Hm.out];exact Nat.le_trans List.count_le_length (by rw[List.length_map];exact Nat.le_refl _)
     have HQm:=hide UN;have Hq0:=hide (show q=0↔nm∉seen by rw[←hq];exact List.count_eq_zero);have hkey:=ye wW.out;unfold tG at hkey;have E6:IntKind.i64.wrap ((q:Int)+1)=(q:Int)+1:=IntWalk.i64_in _ (by have:=fS.out;omega);obtain⟨v0,est,w1,lB,hg1,E4,xR,qJ,hst⟩:=aih (w:=wc.drew) (show wc.drew.ownsMap _ _ _ _ _ _ from C1.out.own) Mc Tryz.underlying152 Tryz.underlying3 rM (by unfold maxLen;have:=fS.out;omega) hkey
     have hv0:v0=.int .i64 (q:Int):=by
      obtain⟨cc,r1,a1,_⟩:=(show wc.drew.ownsMap _ _ _ _ _ _ from C1.out.own).lookup_int Fv Tryz.underlying152 Tryz.underlying3 (rM _) hkey;rw[qJ] at r1;simp only[Result.ok.injEq,and_true] at r1;rw[r1,C1.out.vN wW.out Hq.out a1]
     subst hv0;obtain⟨w3,hes,bW,bw⟩:=hst (.int .i64 ((q:Int)+1)) _ [] (plainElem_int Tryz.underlying3 (WalkArith.wf_i64 (by have:=fS.out;omega))) w1 rfl;have AR:wc.grownBy w3 (some Mb):=⟨bw.os.trans hg1.os,bw.tape.trans hg1.tape,bw.output.trans hg1.output,Nat.le_trans hg1.size bw.size,fun j hj hne=>(bw.block j (Nat.lt_of_lt_of_le hj hg1.size) hne).trans (hg1.block j hj hne)⟩;obtain⟨es,cle,Ez⟩:=C1.out.block;have CL:w2.heap.size≠Mb:=fun e=>tH Ez (by rw[←e];exact K1.out.eR);have I3:=hide (I1.out.kept AR (fun j hj t' _=>by cases hj;exact tH Ez));have O3:=hide (QJ.out.kept AR (.inr (MD QJ.out Ez)));have K3:=hide (K1.out.grown AR (fun e=>CL (by injection e)));have C3:=hide (acw C1.out wW.out Hq.out bW);have M3:=hide (M1.out.grown AR (fun j hj=>by cases hj;rw[CK.out];exact Nat.le_refl _));have ZM:=hide lB;have ZL:=hide hes;have YX:w1.cell? ⟨w2.heap.size,0,none⟩=some (.string (aa nm.ns)):=hg1.cell (show wc.drew.cell? ⟨w2.heap.size,0,none⟩=_ from K1.out.cell 0) (fun e=>CL (by injection e));have YY:w1.cell? ⟨w2.heap.size,1,none⟩=some (.string (aa nm.loc)):=hg1.cell (show wc.drew.cell? ⟨w2.heap.size,1,none⟩=_ from K1.out.cell 1) (fun e=>CL (by injection e))
     have kM:=hide (show (Instr.lookup 152 (.map (some Mb)) (.agg #[.string (aa nm.ns),.string (aa nm.loc)]) false).run Tryz.prog wc.drew=.ok (.int .i64 (q:Int)) wc.drew∧wc.drew.cell? ⟨w2.heap.size,0,none⟩=some (.string (aa nm.ns))∧wc.drew.cell? ⟨w2.heap.size,1,none⟩=some (.string (aa nm.loc)) from⟨qJ,K1.out.cell 0,K1.out.cell 1⟩);have pV:=hide (show (Instr.lookup 152 (.map (some Mb)) (.agg #[.string (aa nm.ns),.string (aa nm.loc)]) false).run Tryz.prog w1=.ok (.int .i64 (q:Int)) w1∧w1.cell? ⟨w2.heap.size,0,none⟩=some (.string (aa nm.ns))∧w1.cell? ⟨w2.heap.size,1,none⟩=some (.string (aa nm.loc)) from⟨xR,YX,YY⟩);clear i1 k1 o1 c1 m1 cR vG hq UN hkey lB hes hg1 bw AR xR qJ hst bW Ez YX YY E4 CL
     go_upto_region 14 with fail
     go_cut [] (fun wx=>wx=w3)
     case first=>
      obtain⟨l0,z0,z1⟩:=kM.out;obtain⟨l1,y0,y1⟩:=pV.out;have lB:=ZM.out;have hes:=ZL.out
      go_region
      all_goals
       (try simp only[Exit.then])
       first
        | (rename_i hJ hM;refine hM _ _ (Met.intro ?_);refine hJ _ _ ?_)
        | (refine Met.intro ?_;rename_i hJ;refine hJ _ _ ?_)
       (repeat apply Exists.intro);exact⟨rfl,rfl⟩
     case rest=>
      have bf:=hcut.symm;clear hcut;subst bf;have qL:((q+1:Nat):Int)=(q:Int)+1:=by omega
      obtain⟨zS,Ay⟩:∃zS,bd.or (cZ (iW st.scope [] (ss.take (k+1))))=zS:=⟨_,rfl⟩;have Il:=hide Ay;have z0:=K3.out.cell 0;have z1:=K3.out.cell 1;have hkey:=hide (ye wW.out);have wU:=hide (show (seen++[nm]).count nm=q+1 by rw[List.count_append,List.count_singleton,beq_self_eq_true,Hq.out];rfl);clear Ay qL;obtain⟨D2,S8⟩:∃D2:DataW Unit,D.put (ky nm) (.lit (.int .i64 ((q:Int)+1)))=D2:=⟨_,rfl⟩;rw[S8] at C3;have QP:=F4 (bD.own (B:=0) (T:=[]) (.eV M3.out) Hl.out H.out.blk (by decide) (by simp)) HN.out Qu.out;have u3:=QP.c3
      have jw:=hide (fun (e:nm∈seen)=>(show zS=yB qy s.at_ 50 by
       rw[←Il.out,aU.out,←wQ.out];simp only[Bool.false_eq_true,if_false,e,or_true,if_true]
       cases sp.2<;>cases bx<;>cases bd<;>rfl))
      have Ij:=hide (fun (e:¬nm∈seen)=>(show zS=qy by
       rw[←Il.out,aU.out,←wQ.out];simp only[Bool.false_eq_true,if_false,e,or_false]))
      obtain⟨gt,KZ⟩:∃gt,decide (nm∈seen)=gt:=⟨_,rfl⟩
      have fK:decide ((1:Int)<(q:Int)+1)=gt:=by
       rw[←KZ,Bool.eq_iff_iff,decide_eq_true_iff,decide_eq_true_iff];have:=Hq0.out
       constructor
       ·intro h;by_cases e:nm∈seen
        ·exact e
        have:=this.2 e;omega
       intro h;have:q≠0:=fun e=>this.1 e h;omega
      have Pg:=hide KZ;clear S8 QP KZ
      go_upto_if 69 with (at_lookup;refine wpList_lookup_own_int _ (by rfl) _ _ 152 (by rfl) 45 3 .i64 Fv Tryz.underlying152 Tryz.underlying3 (rM _) Mb (m+1) _ (by rfl) C3.out.own _ _ (by rfl) hkey.out ?_;intro c1 hat gG;clear gG;have dG:c1=((q+1:Nat):Int):=C3.out.vN wW.out wU.out hat;rw[show ((q+1:Nat):Int)=(q:Int)+1 by omega] at dG;subst dG;clear hat)
      go_cut [] (fun wx=>QI B P w2.heap.size Mb w st zS v nm A c m (m+1) ak D2 (seen++[nm]) wx)
      case first=>
       clear fK
       cases gt with
       | true=>
        have Ik:=hide (jw.out (of_decide_eq_true Pg.out));have HW:=hide (tN B P w3 st _ _ s.at_ 50 I3.out (Nat.le_trans HB.out M3.out.size))
        go_wp2_with fail
        refine HW.out.mono ?_;rintro e w4 ⟨NW,rfl,h1,h2⟩;have I4:=hide h1;have K4:=hide (h2.blk K3.out (by have:=I3.out.blk.lt;intro e;exact gJ K3.out.eR (by rw[e];exact I3.out.blk.eR) (by decide)));have O4:=hide (bD.own (B:=0) (T:=[]) (.eV h2) O3.out I3.out.blk (by decide) (by simp));have C4:=hide (C3.out.but h2 PC.out.symm);have M4:=hide (M3.out.trans h2);clear h1 h2;dsimp only
        rename_i cA
        refine cA _ _ ?_;clear cA;go_wp2;(try simp only[Exit.then]);(try refine Met.intro ?_)
        first
         | (rename_i hJ;refine hJ _ _ ?_)
         | (rename_i hJ hT;refine hJ _ _ ?_)
         | (rename_i hJ hT aT;refine hJ _ _ ?_)
         | (rename_i hJ hT aT cB;refine hJ _ _ ?_)
        (repeat apply Exists.intro);refine⟨?_,rfl⟩;exact⟨NW,by rw[Ik.out];exact I4.out,K4.out,O4.out,C4.out,M4.out⟩
       | false=>
        have Ik:=hide (Ij.out (of_decide_eq_false Pg.out));go_wp2;(try simp only[Exit.then]);(try refine Met.intro ?_)
        first
         | (rename_i hJ;refine hJ _ _ ?_)
         | (rename_i hJ hT;refine hJ _ _ ?_)
         | (rename_i hJ hT aT;refine hJ _ _ ?_)
         | (rename_i hJ hT aT cB;refine hJ _ _ ?_)
        (repeat apply Exists.intro);refine⟨?_,rfl⟩;exact⟨vb1,by rw[Ik.out];exact I3.out,K3.out,O3.out,C3.out,M3.out⟩
      case rest=>
       rename_i wc
       obtain⟨NW,i4,k4,o4,c4,m4⟩:=hcut;have I4:=hide i4;have O4:=hide o4;have C4:=hide c4;have M4:=hide m4;have y0:=k4.cell 0;have y1:=k4.cell 1;have QQ:=F4 (bD.own (B:=0) (T:=[]) (.eV M4.out) Hl.out H.out.blk (by decide) (by simp)) HN.out Qu.out;have u2:=QQ.c2;have QL:=bD.own (B:=0) (T:=[]) (.eV M4.out) Hl.out H.out.blk (by decide) (by simp)
       obtain⟨apf,Uq⟩:∃cur,ae wc lg 149 cur:=by
        rcases QL.2 with ⟨h,_⟩|⟨g',c',cur,h,_,hh,_⟩
        ·cases h
        cases h;exact⟨cur,hh⟩
       have N4:=hide k4;have L4:=hide Uq;clear QL Uq;have e1:=hide (show cz st.scope (ss.take (k+1))=ak++[⟨nm,s.val⟩] by rw[e8.out];simp);have Hwk:=hide vK;clear i4 k4 o4 c4 m4 QQ C3 I3 O3 K3 M3 z0 z1 u3 E6;have Y0:=hide y0;have Y1:=hide y1;have U2:=hide u2;have Aw:Below wc.heap.size wc (wc.drew.alloc (.cells (l8 ⟨nm,s.val⟩).toArray 122)):=(Below.refl _ _).drew.alloc (Nat.le_refl _) _;have BX:=hide Aw;have KX:=hide (show ae (wc.drew.alloc (.cells (l8 ⟨nm,s.val⟩).toArray 122)) wc.heap.size 122 (l8 ⟨nm,s.val⟩).toArray from ae.new wc.drew 122 _)
       have CU:=hide (show (wc.drew.alloc (.cells (l8 ⟨nm,s.val⟩).toArray 122)).cell? ⟨w2.heap.size,0,none⟩=some (.string (aa nm.ns))∧(wc.drew.alloc (.cells (l8 ⟨nm,s.val⟩).toArray 122)).cell? ⟨w2.heap.size,1,none⟩=some (.string (aa nm.loc))∧(wc.drew.alloc (.cells (l8 ⟨nm,s.val⟩).toArray 122)).cell? ⟨lg,k*4+2,none⟩=some (.string (aa s.val)) from
        ⟨(Aw.cell (dN y0)).trans y0,(Aw.cell (dN y1)).trans y1,(Aw.cell (dN u2)).trans u2⟩)
       clear Aw;go_wp2;refine wp_region_held_drew (S:=fun W'=>W'.cell? ⟨w2.heap.size,0,none⟩=some (.string (aa nm.ns))∧W'.cell? ⟨w2.heap.size,1,none⟩=some (.string (aa nm.loc))∧W'.cell? ⟨lg,k*4+2,none⟩=some (.string (aa s.val))) (by kernel_rfl) ?_ (fun hHeld=>?_)
       ·exact⟨Y0.out,Y1.out,U2.out⟩
       change wpAnyH _ _ _ _ _ 10 #[false,false,false,false,false,false,false,false,false,false] _ _;iterate 7 (refine aY (v:=?_) rfl rfl hHeld ?_ ?_;rotate_left;(· (intro w' hSw;obtain⟨l0,z0,z1⟩:=hSw;go_simp;try with_reducible rfl));(try simp only[nx,List.set]))
       refine jg (i:=7) rfl (by kernel_rfl) (by kernel_rfl) (fun K hK=>?_);go_simp;(try dsimp only);refine hK.out _ _ ?_ (fun aV=>?_)
       ·exact CU.out
       clear hK K hHeld;have hHeld:=aV;clear aV;(try simp only[Act.put,List.setIfInBounds_toArray,List.set_cons_zero,List.set_cons_succ]);refine jg (i:=8) rfl (by kernel_rfl) (by kernel_rfl) (fun K hK=>?_);refine Wv _ (by rfl) _ _ _ (by rfl) w.heap.size 122 _ 3 48 Tryz.underlying48 ags (by rfl) (by omega) (.slice A m c) m (iX ak) (by rfl) (eW O4.out BX.out) (l8 ⟨nm,s.val⟩) rfl (abN _) wc.heap.size KX.out (by rfl) (by unfold maxLen;have:=fS.out;omega) (by have:=fS.out;omega) (Nat.le_trans M4.out.size BX.out.size) ?_;intro g8 dw w8 aM aF dc;have cX:=hide aM;have ek:=hide aF;clear aM aF dc;(try dsimp only);refine hK.out _ _ ?_ (fun aV=>?_)
       ·have Ll:some w2.heap.size≠(Value.slice A m c).ownBlock:=fun e=>cU (eW O4.out BX.out) (N4.out.go BX.out) (by decide) e.symm;have hnL:some lg≠(Value.slice A m c).ownBlock:=fun e=>cU (eW O4.out BX.out) (L4.out.go BX.out) (by decide) e.symm;exact⟨ek.out.cell CU.out.1 Ll,ek.out.cell CU.out.2.1 Ll,ek.out.cell CU.out.2.2 hnL⟩
       clear hK K hHeld;have hHeld:=aV;clear aV;(try simp only[Act.put,List.setIfInBounds_toArray,List.set_cons_zero,List.set_cons_succ]);(refine aY (v:=?_) rfl rfl hHeld ?_ ?_;rotate_left;(· (intro w' hSw;obtain⟨l0,z0,z1⟩:=hSw;go_simp;try with_reducible rfl));(try simp only[nx,List.set]));refine wpAnyH_done (by kernel_rfl) ?_ _;go_wp2
       go_roundg (n-(k+1))
       case measure=>have:=Hg.out;omega
       case rel=>
        obtain⟨Sl,RE,AK⟩:=(e7.go C4.out BX.out).block;have ai:=fun j hj=>aG (eW O4.out BX.out) j hj;have e2:(cz st.scope (ss.take (k+1))).length=m+1:=by rw[e1.out,List.length_append,Hm.out];rfl
        refine⟨k+1,NW,some ⟨g8,0,none⟩,dw,D2,rfl,by omega,by first|rfl|go_num,by rw[e2],?_,?_,?_,?_⟩
        ·rw[Il.out];exact (I4.out.go BX.out).agG (Z:=w.heap.size) (fun x hx a ha=>((H.out.gH x hx).ta a ha).lt) ek.out (fun j hj=>⟨(ai j hj).1,fun t' qW hT=>gJ (ai j hj).2 hT (by intro e;subst e;revert qW;decide)⟩)
        ·rw[e2,e1.out,ab2];exact cX.out
        ·rw[e2,e1.out,List.map_append,aak.out];exact (e7.go C4.out BX.out).kept ek.out (fun e=>tH AK (ai Mb e.symm).2)
        exact (M4.out.go BX.out).grown ek.out (fun j hj=>(ai j hj).1)
  have hall:k=n:=by omega
  subst hall;have e1:ss.take k=ss:=List.take_of_length_le (by rw[HN.out];exact Nat.le_refl _);have I:=hide H1.out;have O:=hide H2.out;rw[e1] at I O;rw[e1];clear e1;go_wp2;go_ret;exact⟨vb,A,c,rfl,I.out,O.out,H4.out⟩
end
section
open Go.RowKit Tk Sx

namespace Sx
def cV(st:St)(t:Tok):List ax:=if (iN t.attrs).isNone then scope' st t else st.scope
def b1(t:Tok):Option Nat:=(iN t.attrs).or (iB (splits t))
def rG(sc:List ax)(t:Tok):Option Nat:=if (lQ sc (jr t)).2=false∨jr t=kI then some t.at_ else none
def b3(st:St)(t:Tok):Option Nat:=((b1 t).or (rG (cV st t) t)).or (iW (cV st t) [] (splits t))
def DT(st:St)(t:Tok)(sc:List ax):El:=⟨t.name,⟨(lQ sc (jr t)).1,ni t⟩,st.scope.length⟩
def xu(t:Tok)(sc:List ax):Ev:=⟨0,⟨(lQ sc (jr t)).1,ni t⟩,cz sc (splits t),[]⟩
def wh(st:St)(t:Tok)(sc:List ax):St:=⟨st.open_++[DT st t sc],sc,dg st.evs (xu t sc),true⟩
theorem VG(st:St)(t:Tok):late st t=b3 st t:=by
 unfold late b3 b1 cV
 cases hv:iN t.attrs with
 | some a=>simp
 | none=>
  simp only[Option.isNone_none,if_true,Option.none_or]
  cases hd:iB (splits t) with
  | some a=>simp
  | none=>
   simp only[Option.none_or];unfold rG;split
   ·simp
   simp
theorem aky{st:St}{t:Tok}(h:b3 st t=none):cV st t=scope' st t:=by
 unfold b3 b1 at h;unfold cV
 cases hv:iN t.attrs with
 | some a=>rw[hv] at h;simp at h
 | none=>rfl
theorem X4{st:St}{t:Tok}(h:b3 st t=none):wh st t (cV st t)=started st t:=by rw[aky h];rfl
end Sx
theorem PI.c4{B P:Nat}{w:World}{st:St}{b:bR}{v:Pv}(h:PI B P w st b v):w.cell? ⟨P,4,none⟩=some v.vb:=h.blk.cell 4
theorem PI.c3{B P:Nat}{w:World}{st:St}{b:bR}{v:Pv}(h:PI B P w st b v):w.cell? ⟨P,3,none⟩=some (.bool st.gu):=h.blk.cell 3
theorem PI.tM{B P:Nat}{w:World}{st:St}{v:Pv}(h:PI B P w st none v):v.vb=.pointer none:=h.bad
theorem PI.wy{B P:Nat}{w:World}{st:St}{x:Nat×Nat}{v:Pv}(h:PI B P w st (some x) v):∃F,v.vb=.pointer (some ⟨F,0,none⟩):=by
 obtain⟨F,_,h2,_⟩:=h.bad;exact⟨F,h2⟩

theorem alo(B P:Nat)(w:World)(st:St)(v:Pv)(b o:Nat)(t:Tok)(eL:Option Addr)(ct:Nat)(h:PI B P w st none v)(hB:B≤w.heap.size)(h6:6≤B)(hg:Gl w)(ht:qx B w b o t)
  (iH:w.cell? ⟨b,o+2,none⟩=some (.slice eL t.attrs.length ct)) (hr:Reads w B 3 eL t.attrs.length (ld (t.attrs.map At.g))) (hn:t.attrs.length≤100000000) (tr:t.name.length≤1000000000) (hv:∀a∈t.attrs,a.name.length≤1000000000)
  (x:Nat×Nat) (he:Sx.early st t=some x) :
  Calls Tryz.prog 30 #[.pointer (some ⟨P,0,none⟩),.pointer (some ⟨b,o,none⟩)] w (qw B P w (.error x)):=by
 have eM:=hide (V6 B P w st v b o t eL ct h hB h6 hg ht iH hr hn tr hv);have H:=hide h;have HB:=hide hB;have Ht:=hide ht;have UZ:=hide iH;unfold Sx.early at he;clear h hB h6 hg ht hr hv tr iH
 cases cR:names t with
 | some a=>
  rw[cR] at he;simp only[Option.some.injEq] at he;subst he;have mJ:=hide cR;clear cR
  go_enter Tryz.func30,Tryz.ntmps30
  go_wp2_with fail
  refine eM.out.mono ?_;rintro e w1 ⟨vb,Al,cl,rfl,h1,h2,h3⟩;rw[mJ.out] at h1;obtain⟨F,hF⟩:=PI.wy (x:=(a,50)) h1;have c4:=h1.c4;rw[hF] at c4;have I1:=hide h1;have M1:=hide (aD.eV (B:=B) h3);clear h1 h2 h3 hF;go_wp2;go_end0;exact⟨rfl,M1.out,_,_,I1.out⟩
 | none=>
  rw[cR] at he;dsimp only at he;have mJ:=hide cR;obtain⟨no,hno⟩:∃no,st.open_.length=no:=⟨_,rfl⟩;obtain⟨na,gF⟩:∃na,t.attrs.length=na:=⟨_,rfl⟩;obtain⟨ro,hro⟩:∃ro,st.gu=ro:=⟨_,rfl⟩;have fh:=hide hno;have kU:=hide gF;have jx:=hide hro;have KM:st.open_.isEmpty=decide (no=0):=by rw[←hno];cases st.open_<;>simp
  rw[hro,KM,gF,hno] at he;have r9:=UZ;clear cR hno gF hro KM hn UZ
  by_cases c1:ro=true∧no=0
  ·obtain⟨r1,r2⟩:=c1;subst r1 r2;simp only[decide_true,Bool.and_true,if_true,Option.some.injEq] at he;subst he
   go_enter Tryz.func30,Tryz.ntmps30
   go_wp2_with fail
   refine eM.out.mono ?_;rintro e w1 ⟨vb,Al,cl,rfl,h1,h2,h3⟩;rw[mJ.out] at h1;replace h1:PI B P w1 st none ⟨v.Ao,v.co,v.As,v.cs,v.Ae,v.ce,vb,v.xs⟩:=h1;have aq:=h3.below (B:=B) H.out.bp HB.out;have c4:=h1.c4;rw[h1.tM] at c4;have c0:=h1.c;have c3:=h1.c3;rw[fh.out] at c0;rw[jx.out] at c3;have t5:=(aq.cell (p:=⟨b,o+5,none⟩) Ht.out.lt).trans Ht.out.c5;have t2:=(aq.cell (p:=⟨b,o+2,none⟩) Ht.out.lt).trans r9.out;rw[kU.out] at t2;have I1:=hide (show PI B P w1 st none ⟨v.Ao,v.co,v.As,v.cs,v.Ae,v.ce,vb,v.xs⟩ from h1);have M1:=hide (aD.eV (B:=B) h3);have HW:=hide (oL B P w1 st none _ t.at_ 50 I1.out (Nat.le_trans HB.out h3.size));clear h1 h2 h3 aq
   go_wp2_with fail
   refine HW.out.mono ?_;rintro e w2 ⟨Gj,rfl,h1,h2⟩;obtain⟨F,hF⟩:=PI.wy (x:=(t.at_,50)) h1;have qz:=h1.c4;rw[hF] at qz;have I2:=hide h1;have M2:=hide (M1.out.trans h2);clear h1 h2 hF c4 c0 c3;dsimp only
   rename_i cA
   refine cA _ _ ?_;clear cA;go_wp2;go_end0;exact⟨rfl,M2.out,_,_,I2.out⟩
  rw[if_neg (by simp;intro e h;exact c1 ⟨e,h⟩)] at he
  have EM:ro=false∨(ro=true∧0<no):=by
   cases ro with
   | false=>exact .inl rfl
   | true=>exact .inr ⟨rfl,Nat.pos_of_ne_zero fun e=>c1 ⟨rfl,e⟩⟩
  clear c1
  by_cases c2:16<na
  ·rw[if_pos c2] at he;simp only[Option.some.injEq] at he;subst he
   rcases EM with r1|⟨r1,r2⟩
   ·subst r1
    go_enter Tryz.func30,Tryz.ntmps30
    go_wp2_with fail
    refine eM.out.mono ?_;rintro e w1 ⟨vb,Al,cl,rfl,h1,h2,h3⟩;rw[mJ.out] at h1;replace h1:PI B P w1 st none ⟨v.Ao,v.co,v.As,v.cs,v.Ae,v.ce,vb,v.xs⟩:=h1;have aq:=h3.below (B:=B) H.out.bp HB.out;have c4:=h1.c4;rw[h1.tM] at c4;have c0:=h1.c;have c3:=h1.c3;rw[fh.out] at c0;rw[jx.out] at c3;have t5:=(aq.cell (p:=⟨b,o+5,none⟩) Ht.out.lt).trans Ht.out.c5;have t2:=(aq.cell (p:=⟨b,o+2,none⟩) Ht.out.lt).trans r9.out;rw[kU.out] at t2;have I1:=hide (show PI B P w1 st none ⟨v.Ao,v.co,v.As,v.cs,v.Ae,v.ce,vb,v.xs⟩ from h1);have M1:=hide (aD.eV (B:=B) h3);have HW:=hide (oL B P w1 st none _ t.at_ 42 I1.out (Nat.le_trans HB.out h3.size));clear h1 h2 h3 aq
    go_wp2_with fail
    refine HW.out.mono ?_;rintro e w2 ⟨Gj,rfl,h1,h2⟩;obtain⟨F,hF⟩:=PI.wy (x:=(t.at_,42)) h1;have qz:=h1.c4;rw[hF] at qz;have I2:=hide h1;have M2:=hide (M1.out.trans h2);clear h1 h2 hF c4 c0 c3;dsimp only
    rename_i cA
    refine cA _ _ ?_;clear cA;go_wp2;go_end0;exact⟨rfl,M2.out,_,_,I2.out⟩
   subst r1;have r3:((no:Int)==0)=false:=by rw[beq_eq_false_iff_ne];omega
   go_enter Tryz.func30,Tryz.ntmps30
   go_wp2_with fail
   refine eM.out.mono ?_;rintro e w1 ⟨vb,Al,cl,rfl,h1,h2,h3⟩;rw[mJ.out] at h1;replace h1:PI B P w1 st none ⟨v.Ao,v.co,v.As,v.cs,v.Ae,v.ce,vb,v.xs⟩:=h1;have aq:=h3.below (B:=B) H.out.bp HB.out;have c4:=h1.c4;rw[h1.tM] at c4;have c0:=h1.c;have c3:=h1.c3;rw[fh.out] at c0;rw[jx.out] at c3;have t5:=(aq.cell (p:=⟨b,o+5,none⟩) Ht.out.lt).trans Ht.out.c5;have t2:=(aq.cell (p:=⟨b,o+2,none⟩) Ht.out.lt).trans r9.out;rw[kU.out] at t2;have I1:=hide (show PI B P w1 st none ⟨v.Ao,v.co,v.As,v.cs,v.Ae,v.ce,vb,v.xs⟩ from h1);have M1:=hide (aD.eV (B:=B) h3);have HW:=hide (oL B P w1 st none _ t.at_ 42 I1.out (Nat.le_trans HB.out h3.size));clear h1 h2 h3 aq
   go_wp2_with fail
   refine HW.out.mono ?_;rintro e w2 ⟨Gj,rfl,h1,h2⟩;obtain⟨F,hF⟩:=PI.wy (x:=(t.at_,42)) h1;have qz:=h1.c4;rw[hF] at qz;have I2:=hide h1;have M2:=hide (M1.out.trans h2);clear h1 h2 hF c4 c0 c3;dsimp only
   rename_i cA
   refine cA _ _ ?_;clear cA;go_wp2;go_end0;exact⟨rfl,M2.out,_,_,I2.out⟩
  rw[if_neg c2] at he
  by_cases Jt:no=16
  ·rw[if_pos Jt] at he;simp only[Option.some.injEq] at he;subst he Jt
   rcases EM with r1|⟨r1,r2⟩
   ·subst r1
    go_enter Tryz.func30,Tryz.ntmps30
    go_wp2_with fail
    refine eM.out.mono ?_;rintro e w1 ⟨vb,Al,cl,rfl,h1,h2,h3⟩;rw[mJ.out] at h1;replace h1:PI B P w1 st none ⟨v.Ao,v.co,v.As,v.cs,v.Ae,v.ce,vb,v.xs⟩:=h1;have aq:=h3.below (B:=B) H.out.bp HB.out;have c4:=h1.c4;rw[h1.tM] at c4;have c0:=h1.c;have c3:=h1.c3;rw[fh.out] at c0;rw[jx.out] at c3;have t5:=(aq.cell (p:=⟨b,o+5,none⟩) Ht.out.lt).trans Ht.out.c5;have t2:=(aq.cell (p:=⟨b,o+2,none⟩) Ht.out.lt).trans r9.out;rw[kU.out] at t2;have I1:=hide (show PI B P w1 st none ⟨v.Ao,v.co,v.As,v.cs,v.Ae,v.ce,vb,v.xs⟩ from h1);have M1:=hide (aD.eV (B:=B) h3);have HW:=hide (oL B P w1 st none _ t.at_ 41 I1.out (Nat.le_trans HB.out h3.size));clear h1 h2 h3 aq
    go_wp2_with fail
    refine HW.out.mono ?_;rintro e w2 ⟨Gj,rfl,h1,h2⟩;obtain⟨F,hF⟩:=PI.wy (x:=(t.at_,41)) h1;have qz:=h1.c4;rw[hF] at qz;have I2:=hide h1;have M2:=hide (M1.out.trans h2);clear h1 h2 hF c4 c0 c3;dsimp only
    rename_i cA
    refine cA _ _ ?_;clear cA;go_wp2;go_end0;exact⟨rfl,M2.out,_,_,I2.out⟩
   subst r1
   go_enter Tryz.func30,Tryz.ntmps30
   go_wp2_with fail
   refine eM.out.mono ?_;rintro e w1 ⟨vb,Al,cl,rfl,h1,h2,h3⟩;rw[mJ.out] at h1;replace h1:PI B P w1 st none ⟨v.Ao,v.co,v.As,v.cs,v.Ae,v.ce,vb,v.xs⟩:=h1;have aq:=h3.below (B:=B) H.out.bp HB.out;have c4:=h1.c4;rw[h1.tM] at c4;have c0:=h1.c;have c3:=h1.c3;rw[fh.out] at c0;rw[jx.out] at c3;have t5:=(aq.cell (p:=⟨b,o+5,none⟩) Ht.out.lt).trans Ht.out.c5;have t2:=(aq.cell (p:=⟨b,o+2,none⟩) Ht.out.lt).trans r9.out;rw[kU.out] at t2;have I1:=hide (show PI B P w1 st none ⟨v.Ao,v.co,v.As,v.cs,v.Ae,v.ce,vb,v.xs⟩ from h1);have M1:=hide (aD.eV (B:=B) h3);have HW:=hide (oL B P w1 st none _ t.at_ 41 I1.out (Nat.le_trans HB.out h3.size));clear h1 h2 h3 aq
   go_wp2_with fail
   refine HW.out.mono ?_;rintro e w2 ⟨Gj,rfl,h1,h2⟩;obtain⟨F,hF⟩:=PI.wy (x:=(t.at_,41)) h1;have qz:=h1.c4;rw[hF] at qz;have I2:=hide h1;have M2:=hide (M1.out.trans h2);clear h1 h2 hF c4 c0 c3;dsimp only
   rename_i cA
   refine cA _ _ ?_;clear cA;go_wp2;go_end0;exact⟨rfl,M2.out,_,_,I2.out⟩
  rw[if_neg Jt] at he;cases he
end
end Go.Proofs.YtnbmfljhbpfilaaGreatDoor
