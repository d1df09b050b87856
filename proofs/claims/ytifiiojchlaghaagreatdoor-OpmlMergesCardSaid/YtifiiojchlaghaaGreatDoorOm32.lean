/- A strings.Builder whose row is known: what its writers leave alone. And more. -/
import Derived.Test.YtifiiojchlaghaaGreatDoorOm02
import Derived.Test.YtifiiojchlaghaaGreatDoorOm30
import Derived.Test.YtifiiojchlaghaaGreatDoorOm31
import Derived.Maps.AppendAt
import Derived.Lib.AppendStr
set_option linter.unusedSimpArgs false
set_option maxRecDepth 100000
set_option maxHeartbeats 16000000
set_option linter.unusedVariables false
namespace Go.Proofs.YtifiiojchlaghaaGreatDoor
section
open Go.RowKit Go.WideShapes

theorem aaf{P:Program}(w:World)(base:Nat)(t u ty e:TypeId)(i:TypeInfo)(ht:P.underlying t=some (.slice e))(hu:P.underlying u=some .string)(hi:P.info? e=some i)(hz:i.zero=some (.int .u8 0))
  (hsize:i.size=1) (hby:i.bytes=1) (v:Value) (n:Nat) (xs:List Value) (hown:w.ownsRow base e 1 v n xs) (s:ByteArray) (hbytes:n+s.size≤140737488355328)
  {v':Value} {w':World} (hr:(Builtin.append_ #[t,u] ty #[v,.string s]).run P w=.ok v' w'):v'.ownBlock=v.ownBlock∨v'.ownBlock=some w.heap.size:=by
 have jw:xs.length=n:=by simpa using hown.1
 rcases hown.2 with ⟨rfl,rfl⟩|⟨g,cap,cur,rfl,jo,hg,tG,hcm,hcs,amX⟩
 ·by_cases hm:s.size=0
  ·left
   have hf:=Lib.run_firstCells_string (P:=P) w 1 s;rw[hm] at hf;simp[Builtin.append_,run_underlying ht,run_underlying hu,sizeOf,typeInfo,hi,hsize,Builtin.lenOf,hm,hf] at hr;rw[←hr.1]
  right
  have h:=run_append_nil_string (P:=P) w t u ty e i (.int .u8 0) ht hu hi hz s (by omega) (by omega) (by rw[hby];omega);rw[hr] at h;injection h with h1 _
  rw[h1];rfl
 by_cases hroom:n+s.size≤cap
 ·left
  have al1:cur.size=cap:=by simpa using hcs
  have h:=Lib.run_append_room_string (P:=P) w t u ty e i ht hu hi hsize g n cap cur hg s hroom (by omega);rw[hr] at h;injection h with h1 _
  rw[h1];rfl
 right
 have holds:∀j u,xs[j]?=some u→w.cell? ((⟨g,0,none⟩:Addr).add j)=some u:=hown.cells (g:=g) rfl;have h:=Lib.run_append_grow_string (P:=P) w t u ty e i (.int .u8 0) ht hu hi hz ⟨g,0,none⟩ n cap xs (by rw[hsize];simpa using jw) holds s (by omega) (by omega) (by rw[hby];exact growslice_fits (by omega) (by omega));rw[hr] at h;injection h with h1 _
 rw[h1];rfl
theorem ak3{P:Program}(w:World){ops:Array Oper}{rest:List Oper}{o:Oper}{a:Act}{Q:Exit→Act→World→Prop}(hgd:o.guard=none)(sl x:Operand)(t u:TypeId)
  (ho:o.op=.call { callee:=.builtin .append,args:=#[sl,x],argTypes:=#[t,u] })
  (base:Nat) (e:TypeId) (ht:P.underlying t=some (.slice e)) (hu:P.underlying u=some .string) (fQ:(P.info? e).map (fun i=>(i.zero,i.size,i.bytes))=some (some (.int .u8 0),1,1))
  (v:Value) (n:Nat) (xs:List Value) (hs:a.eval sl=v) (hown:w.ownsRow base e 1 v n xs) (s:ByteArray) (hx:a.eval x=.string s)
  (hbytes:n+s.size≤140737488355328) (hbase:base≤w.heap.size)
  (h:∀v' w',w'.ownsRow base e 1 v' (n+s.size) (xs++Lib.strCells s)→w.grownBy w' v.ownBlock→(v'.ownBlock=v.ownBlock∨v'.ownBlock=some w.heap.size)→wpList P ops Q rest (a.put o.dst v') w'):wpList P ops Q (o :: rest) a w:=by
 refine wpList_plain hgd fun K hK=>?_;obtain⟨i,hi,hz,hsize,hby⟩:=info_parts fQ;obtain⟨v',w',hr,h2,h3,_⟩:=Lib.run_append_own_string (P:=P) w base t u o.type e i ht hu hi hz hsize hby v n xs hown s (by unfold maxLen;omega) hbytes hbase;have h4:=aaf (P:=P) w base t u o.type e i ht hu hi hz hsize hby v n xs hown s hbytes hr;unfold Oper.wp execOp;simp only[ho,resolve,invoke,builtin,Sem.run_bind,Sem.run_pure,Result.andThen_ok,List.map_toArray,List.map_cons,List.map_nil,hs,hx,hr];exact hK _ _ (h v' w' h2 h3 h4)
def Bf(B b:Nat)(l:List UInt8)(r:Option Nat)(w:World):Prop :=
 B≤b∧∃p v,(p=.pointer none∨p=.pointer (some ⟨b,0,none⟩))∧ae w b 39 #[p,v]∧w.ownsRow B 5 1 v l.length (Lib.byteCells l)∧v.ownBlock=r
structure Fz(b:Nat)(r:Option Nat)(w w':World):Prop where
 os:w'.os=w.os
 tape:w'.tape=w.tape
 output:w'.output=w.output
 size:w.heap.size≤w'.heap.size
 block:∀k,k<w.heap.size→k≠b→some k≠r→w'.heap[k]?=w.heap[k]?
theorem Fz.refl(b:Nat)(r:Option Nat)(w:World):Fz b r w w:=⟨rfl,rfl,rfl,Nat.le_refl _,fun _ _ _ _=>rfl⟩
theorem Bf.bx{B b:Nat}{l:List UInt8}{r:Option Nat}{w:World}(h:Bf B b l r w):Bx B b l w:=by
 obtain⟨hB,p,v,hp,hk,ho,_⟩:=h;have hat:Lib.BuilderAt 39 5 B b p (Lib.byteCells l) w:=⟨hB,v,hk,by rw[Lib.byteCells_length];exact ho,dc ho hk (by decide)⟩
 rcases hp with rfl|rfl
 ·exact .inl hat
 exact .inr hat
theorem Bf.fresh(w:World):Bf w.heap.size w.heap.size [] none (w.alloc (.cells #[.pointer none,.slice none 0 0] 39)) :=
 ⟨Nat.le_refl _,_,_,.inl rfl,ae.new w _ _,World.ownsRow_nil _ _ _ _,rfl⟩
def Bg(W0:World)(B b:Nat)(r0:Option Nat)(l:List UInt8)(W:World):Prop:=∃r,Bf B b l r W∧(r=r0∨∃k,r=some k∧W0.heap.size≤k)∧Fz b r0 W0 W
theorem Bg.step{W0 W W':World}{B b:Nat}{r0 r:Option Nat}{l':List UInt8}(h0:r=r0∨∃k,r=some k∧W0.heap.size≤k)(hz:Fz b r0 W0 W)(h:Bg W B b r l' W'):Bg W0 B b r0 l' W':=by
 obtain⟨r',hb,hr,hf⟩:=h;refine⟨r',hb,?_,⟨hf.os.trans hz.os,hf.tape.trans hz.tape,hf.output.trans hz.output,Nat.le_trans hz.size hf.size,fun k hk hne Kn=>(hf.block k (Nat.lt_of_lt_of_le hk hz.size) hne ?_).trans (hz.block k hk hne Kn)⟩⟩
 ·rcases hr with rfl|⟨k,rfl,hk⟩
  ·exact h0
  exact .inr ⟨k,rfl,Nat.le_trans hz.size hk⟩
 rcases h0 with rfl|⟨k0,rfl,iQ⟩
 ·exact Kn
 intro e;injection e with e;omega
theorem Qs{B b:Nat}{l:List UInt8}{r:Option Nat}{w:World}(h:Bf B b l r w) :
  Calls Tryz.prog 28 #[.pointer (some ⟨b,0,none⟩)] w fun e w'=>e=.returned (.tuple #[])∧∃v,ae w' b 39 #[.pointer (some ⟨b,0,none⟩),v]∧w'.ownsRow B 5 1 v l.length (Lib.byteCells l)∧v.ownBlock=r∧Fz b r w w':=by
 obtain⟨hB,p,v,hp,hk,ho,hr⟩:=h;have hne:=dc ho hk (by decide)
 rcases hp with rfl|rfl
 ·refine (Qt b w (hk.cell 0) (by unfold ae at hk;simp[World.shape?,hk]) (hk.frozen 0)).mono ?_;rintro e w' ⟨rfl,rfl⟩;refine⟨rfl,v,by simpa using hk.aG 0 (.pointer (some ⟨b,0,none⟩)),ownsRow_setCell_other ho hne _,hr,⟨rfl,rfl,rfl,by simp[World.setCell],fun k cm h1 h2=>Below.heap_setCell _ _ _ _ (by exact h1)⟩⟩
 refine (Qu b w (hk.cell 0)).mono ?_;rintro e w' ⟨rfl,rfl⟩;exact⟨rfl,v,hk,ho,hr,Fz.refl _ _ _⟩
theorem Rl{B b:Nat}{r:Option Nat}{l':List UInt8}{w w1 w2:World}{v v':Value}(hB:B≤b)(hf:Fz b r w w1)(hk:ae w1 b 39 #[.pointer (some ⟨b,0,none⟩),v])(hr:v.ownBlock=r)(hne:v.ownBlock≠some b)
  (ho:w2.ownsRow B 5 1 v' l'.length (Lib.byteCells l')) (hg:w1.grownBy w2 v.ownBlock) (hat:v'.ownBlock=v.ownBlock∨∃k,v'.ownBlock=some k∧w1.heap.size≤k):Bg w B b r l' (w2.setCell ⟨b,1,none⟩ v'):=by
 have cm:ae w2 b 39 #[.pointer (some ⟨b,0,none⟩),v]:=hk.grown hg (fun e=>hne e.symm);have Ez:=dc ho cm (by decide);refine⟨v'.ownBlock,⟨hB,_,v',.inr rfl,by simpa using cm.aG 1 v',ownsRow_setCell_other ho Ez _,rfl⟩,?_,⟨hg.os.trans hf.os,hg.tape.trans hf.tape,hg.output.trans hf.output,?_,fun k h1 h2 h3=>?_⟩⟩
 ·rcases hat with h|⟨k,h,aK⟩
  ·exact .inl (h.trans hr)
  exact .inr ⟨k,h,Nat.le_trans hf.size aK⟩
 ·have:=hf.size;have:=hg.size;simp only[World.setCell,Array.size_modify];omega
 rw[Below.heap_setCell _ _ _ _ (by exact h2),hg.block k (Nat.lt_of_lt_of_le h1 hf.size) (by rw[hr];exact h3)];exact hf.block k h1 h2 h3
theorem ak7{B b:Nat}{l:List UInt8}{r:Option Nat}{w:World}(m:List UInt8)(h:Bf B b l r w)(hlen:l.length+m.length≤140737488355328)(im:B≤w.heap.size) :
  Calls Tryz.prog 15 #[.pointer (some ⟨b,0,none⟩),.string (aa m)] w fun e w'=>(∃v,e=.returned v)∧Bg w B b r (l++m) w':=by
 have hB:=h.1;have HC:=hide (Qs h);have SX:(aa m).size=m.length:=aW m;have HM:=hide SX;clear h
 go_enter Tryz.func15,Tryz.ntmps15
 go_wp2_with fail
 refine HC.out.mono ?_;rintro e w1 ⟨rfl,v,hk,ho,hr,hf⟩;have hne:=dc ho hk (by decide);have HK:=hide hk;have HO:=hide ho;have HF:=hide hf;have Hr:=hide hr;have HN:=hide hne;have c0:=hk.cell 0;have c1:=hk.cell 1;have hsz:=hf.size;have HB:=hide hB;have Sl:B≤w1.heap.size:=Nat.le_trans im hsz;clear hk ho hr hf hne SX hB;dsimp only
 go_wp2_with (at_builtin;go_loud (refine ak3 w1 rfl _ _ 37 9 rfl B 5 Tryz.underlying37 Tryz.underlying9 EW _ _ _ rfl HO.out (aa m) rfl (by rw[HM.out];exact hlen) Sl ?_);intro v' w2 bG cH Af;have cm:=HK.out.grown cH (fun e=>HN.out e.symm);have d0:=cm.cell 0;have d1:=cm.cell 1;have f1:=cm.frozen 1;have aL:=hide bG;have F7:=hide cH;have FV:=hide Af;obtain⟨ao,cap,rfl⟩:=rN bG;clear bG cH Af cm)
 go_ret2;refine⟨⟨_,rfl⟩,?_⟩;refine Rl HB.out HF.out HK.out Hr.out HN.out ?_ F7.out (FV.out.imp id fun h=>⟨_,h,Nat.le_refl _⟩);have h:=aL.out;rw[HM.out] at h;rw[List.length_append,Di];exact h
theorem akK{B b:Nat}{l:List UInt8}{r:Option Nat}{w:World}(c:UInt8)(h:Bf B b l r w)(hlen:l.length+1≤140737488355328)(im:B≤w.heap.size) :
  Calls Tryz.prog 29 #[.pointer (some ⟨b,0,none⟩),.int .u8 (c.toNat:Nat)] w fun e w'=>e=.returned .nilIface∧Bg w B b r (l++[c]) w':=by
 have hB:=h.1;have HC:=hide (Qs h);obtain⟨i0,hi,hz0,hz1,hz2⟩:=info_parts EW;clear h
 go_enter Tryz.func29,Tryz.ntmps29
 go_wp2_with fail
 refine HC.out.mono ?_;rintro e w1 ⟨rfl,v,hk,ho,hr,hf⟩;have hne:=dc ho hk (by decide);have HK:=hide hk;have HO:=hide ho;have HF:=hide hf;have Hr:=hide hr;have HN:=hide hne;have c0:=hk.cell 0;have c1:=hk.cell 1;have hsz:=hf.size;have HB:=hide hB;have Sl:B≤w1.heap.size:=Nat.le_trans im hsz;clear hk ho hr hf hne hB;dsimp only
 go_wp2_with (at_builtin;refine wpList_append_own_at _ rfl _ _ 37 rfl B 5 i0 (.int .u8 0) 1 1 Tryz.underlying37 hi hz0 hz1 hz2 rfl (by decide) _ _ _ rfl (HO.out.alloc _) ⟨w1.heap.size,0,none⟩ 1 1 [.int .u8 (c.toNat:Nat)] rfl rfl ?c1 ?c2 ?c3 ?c4 ?c5 ?_)
 case c1=>
  intro j u hj
  match j,hj with
  | 0,hj=>simp at hj;subst hj;simp[Addr.add]
 case c2=>intro u hu;simp at hu;subst hu;rfl
 case c3=>unfold maxLen;omega
 case c4=>omega
 case c5=>simp;omega
 intro v' w2 bG cH _ Af;have bB:w1.grownBy w2 v.ownBlock:=⟨cH.os,cH.tape,cH.output,Nat.le_trans (by simp) cH.size,fun k hk hne=>(cH.block k (by simp;omega) hne).trans (Below.heap_alloc w1 _ k hk)⟩
 have Sb:v'.ownBlock=v.ownBlock∨∃k,v'.ownBlock=some k∧w1.heap.size≤k:=by
  rcases Af with h|h
  ·exact .inl h
  exact .inr ⟨_,h,by simp⟩
 have cm:=HK.out.grown bB (fun e=>HN.out e.symm);have d0:=cm.cell 0;have d1:=cm.cell 1;have f1:=cm.frozen 1;have aL:=hide bG;have F7:=hide bB;have FV:=hide Sb;obtain⟨ao,cap,rfl⟩:=rN bG;clear bG cH bB Af Sb cm;go_wp2;go_ret;refine⟨rfl,?_⟩;refine Rl HB.out HF.out HK.out Hr.out HN.out ?_ F7.out FV.out;rw[List.length_append,Di];exact aL.out
end
section
open Go.RowKit Go.WideShapes

namespace Tx
def eo(q:Bool)(c:UInt8):List UInt8 :=
 if c=38 then [38,97,109,112,59] else if c=60 then [38,108,116,59] else if c=62 then [38,103,116,59] else if c=13 then [38,35,49,51,59]
 else if q=true∧c=34 then [38,113,117,111,116,59] else if q=true∧c=9 then [38,35,57,59] else if q=true∧c=10 then [38,35,49,48,59] else [c]
def escape(q:Bool)(l:List UInt8):List UInt8:=l.flatMap (eo q)
theorem ab2(q:Bool)(c:UInt8):(eo q c).length≤6:=by
 unfold eo
 repeat' split
 all_goals simp
theorem Jf(q:Bool)(l:List UInt8):(escape q l).length≤6*l.length:=by
 unfold escape
 induction l with
 | nil=>simp
 | cons c l ih=>rw[List.flatMap_cons,List.length_append,List.length_cons];have:=ab2 q c;omega
theorem ab3{q:Bool}{l:List UInt8}{j:Nat}{c:UInt8}(h:l[j]?=some c):escape q (l.take (j+1))=escape q (l.take j)++eo q c:=by
 unfold escape;rw[List.take_add_one,h,List.flatMap_append];simp
end Tx
theorem Bf.go{B b:Nat}{l:List UInt8}{r:Option Nat}{w w':World}(h:Bf B b l r w)(hb:Below w.heap.size w w'):Bf B b l r w':=by
 obtain⟨hB,p,v,hp,hk,ho,hr⟩:=h;exact⟨hB,p,v,hp,hk.go hb,Cc ho hb,hr⟩
theorem aaH{B b g j:Nat}{l:List UInt8}{r:Option Nat}{w:World}{k:IntKind}{z:Int}(h:Bf B b l r w)(hc:w.cell? ⟨g,j,none⟩=some (.int k z)):g≠b:=by
 rintro rfl;obtain⟨_,p,v,hp,hk,ho,_⟩:=h;rw[hk.cell] at hc;obtain⟨A,c,rfl⟩:=rN ho
 match j,hc with
 | 0,hc=>rcases hp with rfl|rfl<;>simp at hc
 | 1,hc=>simp at hc
 | j+2,hc=>simp at hc
theorem Bg.below{W0 W:World}{B b:Nat}{l:List UInt8}{w:World}(h:Bg W0 B b none l W)(hb:Below B w W0)(hB:B≤b)(hs:B≤W0.heap.size):Below B w W:=by
 obtain⟨r,_,_,hz⟩:=h;exact⟨hz.os.trans hb.os,hz.tape.trans hb.tape,hz.output.trans hb.output,Nat.le_trans hb.size hz.size,fun k hk=>(hz.block k (by omega) (by omega) (by simp)).trans (hb.block k hk)⟩
theorem QW(q:Bool)(l:List UInt8)(w:World)(hs:l.length≤1000000000) :
  Calls Tryz.prog 16 #[.string (aa l),.bool q] w fun e w'=>e=.returned (.string (aa (Tx.escape q l)))∧Below w.heap.size w w':=by
 obtain⟨W0,g,cap,nh,hb,hg,hat⟩:=Dk (aa l) (w.alloc (.cells #[.pointer none,.slice none 0 0] 39));have NQ:=hide ((Bf.fresh w).go hb);have kR:=hide ((aA w (.cells #[.pointer none,.slice none 0 0] 39)).trans (hb.mono (by simp)));have hw0:w.heap.size<W0.heap.size:=Nat.lt_of_lt_of_le (by simp) hb.size;have fC:=hide hat;obtain⟨N,hN⟩:∃N,l.length=N:=⟨_,rfl⟩;have hsz:(aa l).size=N:=by rw[aW,hN]
 rw[hsz] at nh;rw[hN] at hs;have HN:=hide hN;have wO:=hide hsz;clear hb hat hN hsz
 go_enter Tryz.func16,Tryz.ntmps16
 go_wp2
 go_loopg [11] N (fun gk v11 wr=>∃j:Nat,gk=N-j∧j≤N∧v11=.int .i64 (j:Int)∧Bg W0 w.heap.size w.heap.size none (Tx.escape q (l.take j)) wr)
 case atStart=>exact⟨0,rfl,by omega,rfl,⟨none,NQ.out,.inl rfl,Fz.refl _ _ _⟩⟩
 case round=>
  obtain⟨j,aq,hj,rfl,jo⟩:=hrel;have Hg:=hide aq;have FY:=hide jo;clear aq jo
  by_cases hlt:j<N
  ·obtain⟨c,hc⟩:∃c,l[j]?=some c:=⟨_,List.getElem?_eq_getElem (by rw[HN.out];exact hlt)⟩;have hc0:=fC.out j c (by rw[bg];exact hc);have aR:=aaH NQ.out hc0;obtain⟨r,oy,hr,hz⟩:=FY.out
   have y0:wr.cell? ⟨g,j,none⟩=some (.int .u8 (c.toNat:Nat)):=by
    have e:=hz.block g hg aR (by simp);unfold World.cell? at hc0 ⊢;dsimp only at hc0 ⊢;rwa[e]
   have NF:=hide oy;have Hr:=hide hr;have HZ:=hide hz;have HE:=hide (Tx.ab3 (q:=q) hc);have nv:=Tx.Jf q (l.take j);have ad3:(Tx.escape q (l.take j)).length≤6000000000:=Nat.le_trans nv (by rw[List.length_take];omega);have pK:w.heap.size≤wr.heap.size:=Nat.le_trans (Nat.le_of_lt hw0) hz.size;have l4:=hide (fun m (h:m.length≤10)=>ak7 m NF.out (by omega) pK);have j3:=hide (akK c NF.out (by omega) pK);clear hc hc0 oy hr hz nv ad3
   have key:∀w2,Bg wr w.heap.size w.heap.size r (Tx.escape q (l.take j)++Tx.eo q c) w2→Bg W0 w.heap.size w.heap.size none (Tx.escape q (l.take (j+1))) w2:=fun w2 h=>by
    rw[HE.out];exact Bg.step Hr.out HZ.out h
   have Key:=hide key;clear key

   cases q with
   | true=>
    by_cases hcc:c=38
    ·subst hcc;have bn:=hide (show Tx.eo true 38=[38,97,109,112,59] by unfold Tx.eo;simp);rw[bn.out] at Key;clear j3;have HW:=hide (l4.out [38,97,109,112,59] (by decide))
     go_wp2_with fail
     refine HW.out.mono ?_;rintro e w2 ⟨⟨v,rfl⟩,ag⟩;have ah:=hide ag;clear ag;dsimp only;go_wp2
     go_roundg (N-(j+1))
     case measure=>have:=Hg.out;omega
     case rel=>exact⟨j+1,rfl,by omega,by first|rfl|go_num,Key.out _ ah.out⟩
    have lp:((c.toNat:Int)==38)=false:=by
     have:c.toNat≠38:=fun e=>hcc (UInt8.toNat_inj.1 e)
     simpa using (show ¬(c.toNat:Int)=38 by omega)
    have FR:=hide hcc;clear hcc
    by_cases hcc:c=60
    ·subst hcc;have bn:=hide (show Tx.eo true 60=[38,108,116,59] by unfold Tx.eo;simp);rw[bn.out] at Key;clear j3;have HW:=hide (l4.out [38,108,116,59] (by decide))
     go_wp2_with fail
     refine HW.out.mono ?_;rintro e w2 ⟨⟨v,rfl⟩,ag⟩;have ah:=hide ag;clear ag;dsimp only;go_wp2
     go_roundg (N-(j+1))
     case measure=>have:=Hg.out;omega
     case rel=>exact⟨j+1,rfl,by omega,by first|rfl|go_num,Key.out _ ah.out⟩
    have DG:((c.toNat:Int)==60)=false:=by
     have:c.toNat≠60:=fun e=>hcc (UInt8.toNat_inj.1 e)
     simpa using (show ¬(c.toNat:Int)=60 by omega)
    have FT:=hide hcc;clear hcc
    by_cases hcc:c=62
    ·subst hcc;have bn:=hide (show Tx.eo true 62=[38,103,116,59] by unfold Tx.eo;simp);rw[bn.out] at Key;clear j3;have HW:=hide (l4.out [38,103,116,59] (by decide))
     go_wp2_with fail
     refine HW.out.mono ?_;rintro e w2 ⟨⟨v,rfl⟩,ag⟩;have ah:=hide ag;clear ag;dsimp only;go_wp2
     go_roundg (N-(j+1))
     case measure=>have:=Hg.out;omega
     case rel=>exact⟨j+1,rfl,by omega,by first|rfl|go_num,Key.out _ ah.out⟩
    have h62:((c.toNat:Int)==62)=false:=by
     have:c.toNat≠62:=fun e=>hcc (UInt8.toNat_inj.1 e)
     simpa using (show ¬(c.toNat:Int)=62 by omega)
    have FU:=hide hcc;clear hcc
    by_cases hcc:c=13
    ·subst hcc;have bn:=hide (show Tx.eo true 13=[38,35,49,51,59] by unfold Tx.eo;simp);rw[bn.out] at Key;clear j3;have HW:=hide (l4.out [38,35,49,51,59] (by decide))
     go_wp2_with fail
     refine HW.out.mono ?_;rintro e w2 ⟨⟨v,rfl⟩,ag⟩;have ah:=hide ag;clear ag;dsimp only;go_wp2
     go_roundg (N-(j+1))
     case measure=>have:=Hg.out;omega
     case rel=>exact⟨j+1,rfl,by omega,by first|rfl|go_num,Key.out _ ah.out⟩
    have h13:((c.toNat:Int)==13)=false:=by
     have:c.toNat≠13:=fun e=>hcc (UInt8.toNat_inj.1 e)
     simpa using (show ¬(c.toNat:Int)=13 by omega)
    have FP:=hide hcc;clear hcc
    by_cases hcc:c=34
    ·subst hcc;have bn:=hide (show Tx.eo true 34=[38,113,117,111,116,59] by decide);rw[bn.out] at Key;clear j3;have HW:=hide (l4.out [38,113,117,111,116,59] (by decide))
     go_wp2_with fail
     refine HW.out.mono ?_;rintro e w2 ⟨⟨v,rfl⟩,ag⟩;have ah:=hide ag;clear ag;dsimp only;go_wp2
     go_roundg (N-(j+1))
     case measure=>have:=Hg.out;omega
     case rel=>exact⟨j+1,rfl,by omega,by first|rfl|go_num,Key.out _ ah.out⟩
    have h34:((c.toNat:Int)==34)=false:=by
     have:c.toNat≠34:=fun e=>hcc (UInt8.toNat_inj.1 e)
     simpa using (show ¬(c.toNat:Int)=34 by omega)
    have XZ:=hide hcc;clear hcc
    by_cases hcc:c=9
    ·subst hcc;have bn:=hide (show Tx.eo true 9=[38,35,57,59] by decide);rw[bn.out] at Key;clear j3;have HW:=hide (l4.out [38,35,57,59] (by decide))
     go_wp2_with fail
     refine HW.out.mono ?_;rintro e w2 ⟨⟨v,rfl⟩,ag⟩;have ah:=hide ag;clear ag;dsimp only;go_wp2
     go_roundg (N-(j+1))
     case measure=>have:=Hg.out;omega
     case rel=>exact⟨j+1,rfl,by omega,by first|rfl|go_num,Key.out _ ah.out⟩
    have h9:((c.toNat:Int)==9)=false:=by
     have:c.toNat≠9:=fun e=>hcc (UInt8.toNat_inj.1 e)
     simpa using (show ¬(c.toNat:Int)=9 by omega)
    have H9:=hide hcc;clear hcc
    by_cases hcc:c=10
    ·subst hcc;have bn:=hide (show Tx.eo true 10=[38,35,49,48,59] by decide);rw[bn.out] at Key;clear j3;have HW:=hide (l4.out [38,35,49,48,59] (by decide))
     go_wp2_with fail
     refine HW.out.mono ?_;rintro e w2 ⟨⟨v,rfl⟩,ag⟩;have ah:=hide ag;clear ag;dsimp only;go_wp2
     go_roundg (N-(j+1))
     case measure=>have:=Hg.out;omega
     case rel=>exact⟨j+1,rfl,by omega,by first|rfl|go_num,Key.out _ ah.out⟩
    have Jz:((c.toNat:Int)==10)=false:=by
     have:c.toNat≠10:=fun e=>hcc (UInt8.toNat_inj.1 e)
     simpa using (show ¬(c.toNat:Int)=10 by omega)
    have XY:=hide hcc;clear hcc
    have bn:=hide (show Tx.eo true c=[c] by
     unfold Tx.eo;rw[if_neg FR.out,if_neg FT.out,if_neg FU.out,if_neg FP.out,if_neg (fun h=>XZ.out h.2),if_neg (fun h=>H9.out h.2),if_neg (fun h=>XY.out h.2)])
    rw[bn.out] at Key;clear l4;have HW:=hide j3.out
    go_wp2_with fail
    refine HW.out.mono ?_;rintro e w2 ⟨rfl,ag⟩;have ah:=hide ag;clear ag;dsimp only;go_wp2
    go_roundg (N-(j+1))
    case measure=>have:=Hg.out;omega
    case rel=>exact⟨j+1,rfl,by omega,by first|rfl|go_num,Key.out _ ah.out⟩
   | false=>
    by_cases hcc:c=38
    ·subst hcc;have bn:=hide (show Tx.eo false 38=[38,97,109,112,59] by unfold Tx.eo;simp);rw[bn.out] at Key;clear j3;have HW:=hide (l4.out [38,97,109,112,59] (by decide))
     go_wp2_with fail
     refine HW.out.mono ?_;rintro e w2 ⟨⟨v,rfl⟩,ag⟩;have ah:=hide ag;clear ag;dsimp only;go_wp2
     go_roundg (N-(j+1))
     case measure=>have:=Hg.out;omega
     case rel=>exact⟨j+1,rfl,by omega,by first|rfl|go_num,Key.out _ ah.out⟩
    have lp:((c.toNat:Int)==38)=false:=by
     have:c.toNat≠38:=fun e=>hcc (UInt8.toNat_inj.1 e)
     simpa using (show ¬(c.toNat:Int)=38 by omega)
    have FR:=hide hcc;clear hcc
    by_cases hcc:c=60
    ·subst hcc;have bn:=hide (show Tx.eo false 60=[38,108,116,59] by unfold Tx.eo;simp);rw[bn.out] at Key;clear j3;have HW:=hide (l4.out [38,108,116,59] (by decide))
     go_wp2_with fail
     refine HW.out.mono ?_;rintro e w2 ⟨⟨v,rfl⟩,ag⟩;have ah:=hide ag;clear ag;dsimp only;go_wp2
     go_roundg (N-(j+1))
     case measure=>have:=Hg.out;omega
     case rel=>exact⟨j+1,rfl,by omega,by first|rfl|go_num,Key.out _ ah.out⟩
    have DG:((c.toNat:Int)==60)=false:=by
     have:c.toNat≠60:=fun e=>hcc (UInt8.toNat_inj.1 e)
     simpa using (show ¬(c.toNat:Int)=60 by omega)
    have FT:=hide hcc;clear hcc
    by_cases hcc:c=62
    ·subst hcc;have bn:=hide (show Tx.eo false 62=[38,103,116,59] by unfold Tx.eo;simp);rw[bn.out] at Key;clear j3;have HW:=hide (l4.out [38,103,116,59] (by decide))
     go_wp2_with fail
     refine HW.out.mono ?_;rintro e w2 ⟨⟨v,rfl⟩,ag⟩;have ah:=hide ag;clear ag;dsimp only;go_wp2
     go_roundg (N-(j+1))
     case measure=>have:=Hg.out;omega
     case rel=>exact⟨j+1,rfl,by omega,by first|rfl|go_num,Key.out _ ah.out⟩
    have h62:((c.toNat:Int)==62)=false:=by
     have:c.toNat≠62:=fun e=>hcc (UInt8.toNat_inj.1 e)
     simpa using (show ¬(c.toNat:Int)=62 by omega)
    have FU:=hide hcc;clear hcc
    by_cases hcc:c=13
    ·subst hcc;have bn:=hide (show Tx.eo false 13=[38,35,49,51,59] by unfold Tx.eo;simp);rw[bn.out] at Key;clear j3;have HW:=hide (l4.out [38,35,49,51,59] (by decide))
     go_wp2_with fail
     refine HW.out.mono ?_;rintro e w2 ⟨⟨v,rfl⟩,ag⟩;have ah:=hide ag;clear ag;dsimp only;go_wp2
     go_roundg (N-(j+1))
     case measure=>have:=Hg.out;omega
     case rel=>exact⟨j+1,rfl,by omega,by first|rfl|go_num,Key.out _ ah.out⟩
    have h13:((c.toNat:Int)==13)=false:=by
     have:c.toNat≠13:=fun e=>hcc (UInt8.toNat_inj.1 e)
     simpa using (show ¬(c.toNat:Int)=13 by omega)
    have FP:=hide hcc;clear hcc
    have bn:=hide (show Tx.eo false c=[c] by
     unfold Tx.eo;rw[if_neg FR.out,if_neg FT.out,if_neg FU.out,if_neg FP.out,if_neg (fun h=>by cases h.1),if_neg (fun h=>by cases h.1),if_neg (fun h=>by cases h.1)])
    rw[bn.out] at Key;clear l4;have HW:=hide j3.out
    go_wp2_with fail
    refine HW.out.mono ?_;rintro e w2 ⟨rfl,ag⟩;have ah:=hide ag;clear ag;dsimp only;go_wp2
    go_roundg (N-(j+1))
    case measure=>have:=Hg.out;omega
    case rel=>exact⟨j+1,rfl,by omega,by first|rfl|go_num,Key.out _ ah.out⟩
  ·have tD:j=N:=by omega
   subst tD;obtain⟨r,oy,hr,hz⟩:=FY.out;have pK:w.heap.size≤wr.heap.size:=Nat.le_trans (Nat.le_of_lt hw0) hz.size;have HS:=hide (oy.bx.str pK);have ak:=hide (FY.out.below kR.out (Nat.le_refl _) (Nat.le_of_lt hw0));clear oy hr hz;rw[List.take_of_length_le (by rw[HN.out];exact Nat.le_refl _)] at HS
   go_wp2_with fail
   refine HS.out.mono ?_;rintro e w2 ⟨rfl,ag⟩;have ah:=hide (ak.out.trans ag);clear ag;dsimp only;go_wp2;go_ret;exact⟨rfl,ah.out⟩
end
section
open Go.RowKit Tk Sx Go.WideShapes

namespace Opm
def gJ(seen:List L):List ay→Bool
 | []=>true
 | x :: r=>decide (x.pre≠[])&&(Tx.jN x.pre&&(Tx.jN x.ns&&(!decide (x.pre∈seen)&&gJ (x.pre :: seen) r)))
def may(l:List ay):Bool:=gJ [] l&&decide (l.length≤64)
end Opm
theorem Ng(B b R:Nat)(l:L)(ss:List L)(w:World)(hB:Bx B b l w)(im:B≤w.heap.size)(hR:ae w R 9 (Fh ss).toArray)(hRb:R≠b)(hn:ss.length≤1000)(hlen:l.length+ss.flatten.length≤100000000000) :
  Calls Tryz.prog 14 #[.slice (some ⟨R,0,none⟩) ss.length ss.length,.pointer (some ⟨b,0,none⟩)] w fun e w'=>(∃v,e=.returned v)∧Bx B b (l++ss.flatten) w'∧bM B b w w':=by
 obtain⟨m,hm⟩:∃m,ss.length=m:=⟨_,rfl⟩;have Hm:=hide hm;have HR:=hide hR;have HB:=hide hB;rw[hm] at hn ⊢;clear hm hR hB
 go_enter Tryz.func14,Tryz.ntmps14
 go_wp2
 go_loopg [4,7,8,9,10,11,12,13] m (fun gk v4 v7 v8 v9 v10 v11 v12 v13 wr=>∃j:Nat,v7=.int .i64 (j:Int)∧gk=m-j∧j≤m∧Bx B b (l++(ss.take j).flatten) wr∧bM B b w wr)
 case atStart=>exact⟨0,rfl,rfl,by omega,by simpa using HB.out,bM.refl _ _ _⟩
 case round=>
  obtain⟨j,rfl,aq,hj,jq,bz⟩:=hrel;have eM:=hide aq;have nL:=hide jq;have po:=hide bz;clear aq jq bz
  by_cases hlt:j<m
  ·obtain⟨t,ht⟩:∃t,ss[j]?=some t:=⟨_,List.getElem?_eq_getElem (by rw[Hm.out];exact hlt)⟩;have nd:=po.out.blk HR.out hRb (by decide)
   have hc:wr.cell? ⟨R,j,none⟩=some (.string (aa t)):=by
    rw[nd.cell j];simp[Fh,ht]
   have eR:(ss.take (j+1)).flatten=(ss.take j).flatten++t:=by
    rw[List.take_add_one,ht];simp
   have hle:(l++(ss.take j).flatten).length+t.length≤140737488355328:=by
    have h1:((ss.take (j+1)).flatten).length≤ss.flatten.length:=by
     have h2:=congrArg List.length (congrArg List.flatten (List.take_append_drop (j+1) ss));rw[List.flatten_append,List.length_append] at h2;omega
    rw[eR,List.length_append] at h1;rw[List.length_append];omega
   have HW:=hide (nL.out.ws t hle (Nat.le_trans im po.out.size));have wW:=hide eR;have np:(0:Int)≤j∧(j:Int)<m:=by omega
   clear ht nd eR hle
   go_wp2_with fail
   refine HW.out.mono ?_;rintro e w1 ⟨⟨v,rfl⟩,au,cC⟩;have az:=hide au;have Gf:=hide (po.out.trans cC);clear au cC;dsimp only;go_wp2
   go_roundg (m-(j+1))
   case measure=>have:=eM.out;omega
   case rel=>exact⟨j+1,by first|rfl|go_num,rfl,by omega,by rw[wW.out,←List.append_assoc];exact az.out,Gf.out⟩
  have eO:j=m:=by omega
  have dD:¬(j:Int)<(m:Int):=by omega
  have HF:=hide (show Bx B b (l++ss.flatten) wr from by
   have:=nL.out;rwa[eO,←Hm.out,List.take_length] at this)
  clear eO;go_wp2;go_end0;exact⟨⟨_,rfl⟩,HF.out,po.out⟩
theorem ZN(l:List ay)(A:Option Addr)(c:Nat)(w:World)(hR:Reads w w.heap.size 2 A l.length (bj l))(hu:∀x∈l,x.pre.length≤100000∧x.ns.length≤100000)(hl:l.length≤1000000) :
  Calls Tryz.prog 8 #[.slice A l.length c] w fun e w'=>e=.returned (.bool (Opm.may l))∧Below w.heap.size w w':=by
 obtain⟨n,hn⟩:∃n,l.length=n:=⟨_,rfl⟩;have HR:=hide hR;have HU:=hide hu;have Hn:=hide hn;have ir:=@run_makeMap Tryz.prog;have kW:=hide (gh.new w);have HL:=hide (fun (t:L) (W:World) (ht:t.length≤200000)=>aeP t W ht);have hz:decide (l.length≤64)=decide (n≤64):=by rw[hn]
 have lH:Opm.may l=(Opm.gJ [] l&&decide (n≤64)):=by unfold Opm.may;rw[hz]
 have qD:=hide lH;rw[hn] at hl ⊢;clear hR hu hn hz lH
 go_enter Tryz.func8,Tryz.ntmps8
 go_wp2;clear ir;obtain⟨w0,hw0⟩:∃w0,w.alloc (.map #[] 0)=w0:=⟨_,rfl⟩;have kR:=hide (hw0▸aA w (.map #[] 0));rw[hw0] at kW ⊢;obtain⟨M,hM⟩:∃M,w.heap.size=M:=⟨_,rfl⟩;have HM:=hide hM;rw[hM] at kW;simp only[hM];clear hw0 hM
 go_loopg [2,5,9,10,11,12,13,14,15,16,17,18,19,20,21,22,23,24,25,26,27,28,29,30,31,32,33,34,35] n (fun gk v2 v5 v9 v10 v11 v12 v13 v14 v15 v16 v17 v18 v19 v20 v21 v22 v23 v24 v25 v26 v27 v28 v29 v30 v31 v32 v33 v34 v35 wr=>∃(j:Nat) (D:DataW Unit) (seen:List L),v9=.int .i64 (j:Int)∧gk=n-j∧j≤n∧gh wr M j seen D∧Opm.gJ [] l=Opm.gJ seen (l.drop j)∧Below w.heap.size w wr)
 case atStart=>exact⟨0,_,[],rfl,rfl,by omega,kW.out,rfl,kR.out⟩
 case round=>
  obtain⟨j,D,seen,rfl,aq,hj,hs,heq,hb⟩:=hrel;have eM:=hide aq;have HS:=hide hs;have HEq:=hide heq;have HB:=hide hb;clear aq hs heq hb
  by_cases hlt:j<n
  ·have fR:j<l.length:=by rw[Hn.out];exact hlt
   obtain⟨b,off,rfl,jl,x0,x1⟩:=(HR.out.below HB.out).pF fR;obtain⟨dT,bH⟩:=HU.out l[j] (List.getElem_mem fR);have hd:l.drop j=l[j] :: l.drop (j+1):=List.drop_eq_getElem_cons fR;obtain⟨⟨u,t⟩,hx⟩:∃x,l[j]=x:=⟨_,rfl⟩;rw[hx] at hd x0 x1 dT bH;dsimp only at x0 x1 dT bH;have hst:Opm.gJ seen (l.drop j)=(decide (u≠[])&&(Tx.jN u&&(Tx.jN t&&(!decide (u∈seen)&&Opm.gJ (u :: seen) (l.drop (j+1)))))):=by rw[hd,Opm.gJ]
   have bf:=hide hst;have np:(0:Int)≤j∧(j:Int)<n:=by omega
   have JB:=aA wr (.cells #[.string (aa u),.string (aa t)] 35);have az:=hide (HB.out.trans (JB.mono HB.out.size));have DW:=ae.new wr 35 #[.string (aa u),.string (aa t)];have qs:=hide (HS.out.same (JB.block _ HS.out.lt));have Gf:=hide DW;have k0:=DW.cell 0;have k1:=DW.cell 1;clear hd hx hst JB DW
   by_cases jL:u=[]
   ·subst jL;have e1:=uS [];have HF:=hide (show Opm.may l=false by rw[qD.out,HEq.out,bf.out];simp);clear bf HEq;go_wp2;go_ret;rw[HF.out];exact⟨rfl,az.out⟩
   have e1:=sM jL;have ky:decide (u≠[])=true:=decide_eq_true jL;rw[ky,Bool.true_and] at bf;clear jL ky;have HF:=hide (show ∀q,Opm.gJ seen (l.drop j)=q→Opm.may l=(q&&decide (n≤64)) from fun q hq=>by rw[qD.out,HEq.out,hq]);obtain⟨q1,pO⟩:∃q,Tx.jN u=q:=⟨_,rfl⟩;obtain⟨q2,oG⟩:∃q,Tx.jN t=q:=⟨_,rfl⟩;have N8:=hide (fun W=>HL.out u W (by omega));have si:=hide (fun W=>HL.out t W (by omega));simp only[pO] at N8;simp only[oG] at si;rw[pO,oG] at bf;clear pO oG
   go_wp2_with fail
   refine (N8.out _).mono ?_;rintro e w2 ⟨rfl,ag⟩;have ah:=hide (az.out.trans (ag.mono az.out.size));have sr:=hide (qs.out.same (ag.block _ qs.out.lt));have gF:=Gf.out.go ag;have j0:=gF.cell 0;have j1:=gF.cell 1;have cK:=hide gF;clear ag gF k0 k1 x0 x1;dsimp only
   cases q1 with
   | false=>
    have HF:=hide (show Opm.may l=false by rw[HF.out _ bf.out];simp);clear bf HEq;go_wp2;go_ret;rw[HF.out];exact⟨rfl,ah.out⟩
   | true=>
    go_wp2_with fail
    refine (si.out _).mono ?_;rintro e w3 ⟨rfl,aD⟩;have ax:=hide (ah.out.trans (aD.mono ah.out.size));have JS:=sr.out.same (aD.block _ sr.out.lt);have uZ:=cK.out.go aD;have i0:=uZ.cell 0;have HS3:=hide JS;have jW:=hide (Jr M j seen D u w3 JS (by omega) (by unfold maxLen;omega));clear aD uZ JS j0 j1;dsimp only
    cases q2 with
    | false=>
     have HF:=hide (show Opm.may l=false by rw[HF.out _ bf.out];simp);clear bf HEq;go_wp2;go_ret;rw[HF.out];exact⟨rfl,ax.out⟩
    | true=>
     go_wp2_with fail
     refine jW.out.mono ?_;rintro e w4 ⟨rfl,nk,D',Tt⟩;have cd:=hide (ax.out.grown nk ax.out.size (fun k e=>by injection e with e;have:=HM.out;omega));have qu:=hide Tt;clear nk Tt;dsimp only;obtain⟨q3,AU⟩:∃q,decide (u∈seen)=q:=⟨_,rfl⟩;rw[AU] at bf ⊢;clear AU
     cases q3 with
     | true=>
      have HF:=hide (show Opm.may l=false by rw[HF.out _ bf.out];simp);clear bf HEq;simp only[Bool.not_true];go_wp2;go_ret;rw[HF.out];exact⟨rfl,cd.out⟩
     | false=>
      have Yc:=hide (show Opm.gJ [] l=Opm.gJ (u :: seen) (l.drop (j+1)) by rw[HEq.out,bf.out];simp);clear bf HEq;simp only[Bool.not_false];go_wp2
      go_roundg (n-(j+1))
      case measure=>have:=eM.out;omega
      case rel=>exact⟨j+1,_,_,by first|rfl|go_num,rfl,by omega,qu.out,Yc.out,cd.out⟩
  have eO:j=n:=by omega
  have dD:¬(j:Int)<(n:Int):=by omega
  have HF:=hide (show Opm.may l=decide (n≤64) by rw[qD.out,HEq.out,eO,←Hn.out,List.drop_length];rfl);have hq:decide ((n:Int)≤64)=decide (n≤64):=by rw[decide_eq_decide];omega
  have Hq:=hide hq;clear eO hq;go_wp2;go_ret;rw[HF.out];refine⟨?_,HB.out⟩;show Ending.returned (.bool (decide ((n:Int)≤64)))=_;rw[Hq.out]
end
end Go.Proofs.YtifiiojchlaghaaGreatDoor
