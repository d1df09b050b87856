/- opml.Merge: outlines put behind others, each Url once. And more. -/
import Derived.Test.YtpdkeckeekchlaaGreatDoorOt30
set_option linter.unusedSimpArgs false
set_option maxRecDepth 100000
set_option maxHeartbeats 16000000
set_option linter.unusedVariables false
namespace Go.Proofs.YtpdkeckeekchlaaGreatDoor
section
open Go.RowKit Tk Sx Go.WideShapes

namespace Opm
def lq(acc:List aB)(x:aB):List aB:=if x.pre∈acc.map (·.pre) then acc else acc++[x]
def eG(acc l:List aB):List aB:=l.foldl lq acc
def gh(a b:List aB):List aB:=eG (eG [] a) b
theorem WD(acc l:List aB)(x:aB):eG acc (l++[x])=lq (eG acc l) x:=by simp[eG]
theorem yV(l:List aB):∀acc,(eG acc l).length≤acc.length+l.length:=by
 induction l with
 | nil=>intro acc;simp[eG]
 | cons x l ih=>
  intro acc;have h:=ih (lq acc x)
  have h2:(lq acc x).length≤acc.length+1:=by
   unfold lq;split
   ·omega
   simp
  have h3:eG acc (x :: l)=eG (lq acc x) l:=rfl;rw[h3,List.length_cons];omega
def sX(a b:List aB):Nat→List aB
 | 0=>[]
 | 1=>eG [] a
 | _=>gh a b
theorem abZ(a b:List aB)(i:Nat):(sX a b i).length≤a.length+b.length:=by
 have h1:=yV a [];have h2:=yV b (eG [] a);rw[List.length_nil] at h1
 rcases i with _|_|i
 ·exact Nat.zero_le _
 ·show (eG [] a).length≤_;omega
 show (gh a b).length≤_;unfold gh;omega
end Opm
structure lj(w:World)(rv:Array Value)(mb k:Nat)(S:List L)(acc:List aB)(v:Value)(W:World):Prop where
 s:∃(n:Nat) (D:DataW Unit) (seen:List L),fR W mb n seen D∧n≤k∧∀x,x∈seen↔x∈S
 o:∃A c,v=.slice A acc.length c∧W.ownsRow w.heap.size 37 2 v acc.length (aM acc)
 b:Below w.heap.size w W
 r:ae W (w.heap.size+1) 22 rv
section
variable {w W W' X Y:World} {rv:Array Value} {mb k:Nat} {v:Value} {S:List L} {acc:List aB}
theorem lj.alloc(h:lj w rv mb k S acc v W)(o:Obj):lj w rv mb k S acc v (W.alloc o):=by
 obtain⟨n,D,seen,hs,hn,hx⟩:=h.s;obtain⟨A,c,ho,hr⟩:=h.o;exact⟨⟨n,D,seen,hs.same (Below.heap_alloc _ _ _ hs.lt),hn,hx⟩,⟨A,c,ho,hr.alloc _⟩,h.b.alloc h.b.size _,h.r.alloc _⟩
theorem lj.fresh{n:Nat}{u:L}{D':DataW Unit}{seen S':List L}(h:lj w rv mb k S acc v X)(hmw:w.heap.size≤mb)(hn:n≤k)(hm:∃es cl,X.heap[mb]?=some (.map es cl))(hS:∀x,x∈u :: seen↔x∈S')(hg:X.grownBy Y (some mb))(hs:fR Y mb (n+1) (u :: seen) D'):lj w rv mb (k+1) S' acc v Y:=by
 obtain⟨A,c,ho,hr⟩:=h.o;refine⟨⟨n+1,D',_,hs,by omega,hS⟩,⟨A,c,ho,hr.kept hg ?_⟩,h.b.grown hg h.b.size (fun k e=>by injection e with e;omega),h.r.grown hg fun e=>?_⟩;rotate_left
 ·injection e with e
  obtain⟨es,cl,h2⟩:=hm;rw[←e,show X.heap[w.heap.size+1]?=_ from h.r] at h2;cases h2
 cases hb:v.ownBlock with
 | none=>exact .inl rfl
 | some g=>
  refine .inr fun e=>?_;obtain⟨_,cs,fr,hc⟩:=aD hr g hb;obtain⟨es,cl,h2⟩:=hm;injection e with e
  subst e;rw[hc] at h2;cases h2
theorem lj.app{A:Option Addr}{c g cap:Nat}{x:aB}(h:lj w rv mb k S acc v X)(hv:v=.slice A acc.length c)(hg:X.grownBy Y v.ownBlock)(ho:Y.ownsRow w.heap.size 37 2 (.slice (some ⟨g,0,none⟩) (acc.length+1) cap) (acc.length+1) (aM acc++jH x)) :
  lj w rv mb k S (acc++[x]) (.slice (some ⟨g,0,none⟩) (acc.length+1) cap) Y:=by
 have hl:(acc++[x]).length=acc.length+1:=by simp
 obtain⟨n,D,seen,hs,hn,hx⟩:=h.s;obtain⟨A2,c2,cQ,hr⟩:=h.o;have hown:=aD hr;refine⟨⟨n,D,seen,hs.same ?_,hn,hx⟩,⟨some ⟨g,0,none⟩,cap,by rw[hl],by rw[hl,show aM (acc++[x])=aM acc++jH x by simp[aM]];exact ho⟩,h.b.grown hg h.b.size (fun r e=>(hown r e).1),h.r.grown hg (fun e=>bR hr h.r (by decide) e.symm)⟩;refine hg.block _ hs.lt (fun e=>?_);obtain⟨es,cl,h2⟩:=(show ∃es cl,X.heap[mb]?=some (.map es cl) by obtain⟨es,cl,hb,_⟩:=hs.own;exact⟨es,cl,hb⟩);obtain⟨_,cs,fr,h3⟩:=hown _ e.symm;rw[h3] at h2;cases h2
end
theorem abB(la lb:List aB)(A B:Option Addr)(ca cb:Nat)(w:World)(hA:Reads w w.heap.size 2 A la.length (aM la))(hB:Reads w w.heap.size 2 B lb.length (aM lb))(cn:la.length≤1000000)(fc:lb.length≤1000000)(hu:∀x∈la++lb,x.pre.length≤1000000) :
  Calls Tryz.prog 14 #[.slice A la.length ca,.slice B lb.length cb] w fun e w'=>∃A' c',e=.returned (.slice A' (Opm.gh la lb).length c')∧w'.ownsRow w.heap.size 37 2 (.slice A' (Opm.gh la lb).length c') (Opm.gh la lb).length (aM (Opm.gh la lb))∧Below w.heap.size w w':=by
 obtain⟨na,dh⟩:∃n,la.length=n:=⟨_,rfl⟩;obtain⟨nb,dU⟩:∃n,lb.length=n:=⟨_,rfl⟩;have zR:=ap hA;have IV:=ap hB;have HU:=ap hu;have eK:=ap dh;have sQ:=ap dU;rw[dh] at zR cn ⊢;rw[dU] at IV fc ⊢;have gD:=@run_makeMap Tryz.prog;have fH:=ae.new (w.alloc (.map #[] 0)) 22 #[.slice A na ca,.slice B nb cb];rw[World.size_alloc] at fH;have tE:lj w #[.slice A na ca,.slice B nb cb] w.heap.size 0 [] [] (.slice none 0 0) ((w.alloc (.map #[] 0)).alloc (.cells #[.slice A na ca,.slice B nb cb] 22)):=⟨⟨0,_,_,(fR.new w).same (Below.heap_alloc _ _ _ (by simp)),Nat.le_refl _,fun x=>by simp⟩,⟨none,0,rfl,World.ownsRow_nil _ _ _ _⟩,(ay w _).alloc (by simp) _,fH⟩;have eI:=ap tE
 have HP:=ap (show ∀i,i<2→∃(l:List aB) (Al:Option Addr) (n cl:Nat),l.length=n∧Reads w w.heap.size 2 Al l.length (aM l)∧n≤1000000∧Opm.sX la lb (i+1)=Opm.eG (Opm.sX la lb i) l∧(#[Value.slice A na ca,Value.slice B nb cb]:Array Value)[i]?=some (.slice Al n cl)∧∀x∈l,x.pre.length≤1000000 from by
  intro i hi
  rcases (show i=0∨i=1 by omega) with rfl|rfl
  ·exact⟨la,A,na,ca,dh,by rw[dh];exact zR.o,cn,rfl,rfl,fun x hx=>hu x (List.mem_append_left _ hx)⟩
  exact⟨lb,B,nb,cb,dU,by rw[dU];exact IV.o,fc,rfl,rfl,fun x hx=>hu x (List.mem_append_right _ hx)⟩)
 have mr:=fun i=>Opm.abZ la lb i;rw[dh,dU] at mr;have sz:=ap mr;clear hA hB hu dh dU tE fH zR IV HU eK sQ mr
 go_enter Tryz.func14,Tryz.ntmps14
 go_wp2;clear gD;obtain⟨w0,hw0⟩:∃w0,(w.alloc (.map #[] 0)).alloc (.cells #[.slice A na ca,.slice B nb cb] 22)=w0:=⟨_,rfl⟩;rw[hw0] at eI ⊢;obtain⟨rv,BR⟩:∃rv,(#[Value.slice A na ca,Value.slice B nb cb]:Array Value)=rv:=⟨_,rfl⟩;rw[BR] at eI HP;obtain⟨M,hM⟩:∃M,w.heap.size=M:=⟨_,rfl⟩;have HM:=ap hM;rw[hM] at eI;simp only[hM];clear hw0 BR hM
 go_loopg [4,7,9,15,16,17,18,19,20,21,22,23,24,25,26,27,28,29,30,31,32,33,34] 2 (fun gk v4 v7 v9 v15 v16 v17 v18 v19 v20 v21 v22 v23 v24 v25 v26 v27 v28 v29 v30 v31 v32 v33 v34 wr=>∃i:Nat,v15=.int .i64 (i:Int)∧gk=2-i∧i≤2∧lj w rv M (i*1000000) ((Opm.sX la lb i).map (·.pre)) (Opm.sX la lb i) v4 wr)
 case atStart=>exact⟨0,rfl,rfl,by omega,eI.o⟩
 case round=>
  obtain⟨i,rfl,au,hi,hI⟩:=hrel;have dQ:=ap au;have HI:=ap hI
  rename World=>wo
  clear au hI eI
  by_cases pS:i<2
  ·obtain⟨l,Al,n,cl,iU,hR,hn6,oI,BR,BZ⟩:=HP.o i pS;have hri:=HI.o.r.cell i;rw[HM.o,BR] at hri;have dg:(0:Int)≤i∧(i:Int)<2:=by omega
   have zK:=ap iU;have HR:=ap hR;have DF:=ap BZ;have Qv:=ap oI;obtain⟨acc,gz⟩:∃acc,Opm.sX la lb i=acc:=⟨_,rfl⟩;have aeV:=sz.o i;rw[gz] at HI Qv aeV;have Dj:=ap (show lj w rv M (i*1000000+0) ((Opm.eG acc (l.take 0)).map (·.pre)) (Opm.eG acc (l.take 0)) _ wo from by rw[Nat.add_zero,List.take_zero];exact HI.o);clear iU hR BZ oI gz BR HP;go_wp2
   go_loopg [4,9,21,22,23,24,25,26,27,28,29,30,31,32,33] n (fun gj v4 v9 v21 v22 v23 v24 v25 v26 v27 v28 v29 v30 v31 v32 v33 wr=>∃j:Nat,v21=.int .i64 (j:Int)∧gj=n-j∧j≤n∧lj w rv M (i*1000000+j) ((Opm.eG acc (l.take j)).map (·.pre)) (Opm.eG acc (l.take j)) v4 wr)
   case atStart=>exact⟨0,by first|rfl|go_num,rfl,by omega,Dj.o⟩
   case round=>
    obtain⟨j,rfl,tO,hj,hI⟩:=hrel;have sN:=ap tO;have je:=ap hI;have LQ:=Opm.yV (l.take j) acc;clear tO hI
    by_cases hjn:j<n
    ·have cC:j<l.length:=by rw[zK.o];exact hjn
     have dI:=Opm.WD acc (l.take j) l[j];rw[show l.take j++[l[j]]=l.take (j+1) by rw[List.take_add_one,List.getElem?_eq_getElem cC];rfl] at dI;obtain⟨b,off,rfl,eZ,x0,x1⟩:=(HR.o.below je.o.b).mo cC;have VF:=DF.o l[j] (List.getElem_mem cC);obtain⟨⟨u,t⟩,hx⟩:∃x,l[j]=x:=⟨_,rfl⟩;rw[hx] at dI x0 x1 VF;dsimp only at x0 x1 VF;have iR:(0:Int)≤j∧(j:Int)<n:=by omega
     have ie:=ap dI;obtain⟨k,hk⟩:∃k,i*1000000+j=k:=⟨_,rfl⟩;have bu:i*1000000+(j+1)=k+1:=by omega
     have BK:k≤3000000:=by omega
     rw[hk] at je;have UT:(Opm.eG acc (l.take j)).length≤4000000:=by rw[List.length_take] at LQ;omega
     obtain⟨ac,oI⟩:∃ac,Opm.eG acc (l.take j)=ac:=⟨_,rfl⟩;rw[oI] at je ie UT;have pN:=je.o.alloc (.cells #[.string (aa u),.string (aa t)] 37);have vO:=ae.new wr 37 #[.string (aa u),.string (aa t)];have jZ:=ap pN;have br:=ap vO;obtain⟨m,D,seen,qd,yv,VB⟩:=pN.s;have n5:=ap (KD M m seen D u _ qd (by omega) (by unfold maxLen;omega));have j3:=ap (show ∃es cl,(wr.alloc (.cells #[.string (aa u),.string (aa t)] 37)).heap[M]?=some (.map es cl) by obtain⟨es,cl,hb,_⟩:=qd.own;exact⟨es,cl,hb⟩);have qI:=ap VB;have k0:=vO.cell 0;have k1:=vO.cell 1;have pR:=je.o.b.size;rw[HM.o] at pR
     have hMl:M<wr.heap.size:=by
      obtain⟨_,_,_,hs,_⟩:=je.o.s;exact hs.lt
     clear dI hx hk oI pN vO qd VB LQ
     go_wp2_with fail
     refine n5.o.mono ?_;rintro e w9 ⟨rfl,fK,D',nM⟩;dsimp only;have Z2:=ap fK
     by_cases bB:u∈ac.map (·.pre)
     ·rw[show Opm.lq ac ⟨u,t⟩=ac by simp only[Opm.lq];rw[if_pos bB]] at ie;have hd:decide (u∈seen)=true:=decide_eq_true ((qI.o u).2 bB);have lC:=jZ.o.fresh (by rw[HM.o];exact Nat.le_refl _) yv j3.o (S':=ac.map (·.pre)) (fun z=>by rw[List.mem_cons,qI.o];exact⟨fun h=>h.elim (fun e=>e▸bB) id,.inr⟩) fK nM;have zG:=ap lC;clear fK nM bB lC n5 k0 k1 x0 x1;rw[hd];simp only[Bool.not_true];go_wp2
      go_roundg (n-(j+1))
      case measure=>have:=sN.o;omega
      case rel=>exact⟨j+1,by first|rfl|go_num,rfl,by omega,by rw[bu,ie.o];exact zG.o⟩
     rw[show Opm.lq ac ⟨u,t⟩=ac++[⟨u,t⟩] by simp only[Opm.lq];rw[if_neg bB]] at ie;have hd:decide (u∈seen)=false:=decide_eq_false (fun h=>bB ((qI.o u).1 h));have lC:=jZ.o.fresh (by rw[HM.o];exact Nat.le_refl _) yv j3.o (S':=(ac++[(⟨u,t⟩:aB)]).map (·.pre)) (fun z=>by rw[List.mem_cons,qI.o];simp[or_comm]) fK nM;obtain⟨A9,c9,rfl,yB⟩:=lC.o;have KY:ae w9 wr.heap.size 37 #[.string (aa u),.string (aa t)]:=br.o.grown fK (fun e=>by injection e with e;omega);have y0:=KY.cell 0;have y1:=KY.cell 1;have pF:=ap yB;have zG:=ap lC;have hbase:=lC.b.size;obtain⟨WE,LY⟩:∃q,ac.length=q:=⟨_,rfl⟩;have Jo:=ap LY;rw[LY] at pF UT ⊢;clear fK nM bB lC yB n5 k0 k1 x0 x1 KY LY;rw[hd];simp only[Bool.not_false]
     go_wp2_with (at_builtin;go_loud (refine et w9 (cs:=[.string (aa u),.string (aa t)]) rfl (.tmp 29) (.tmp 31) 22 rfl w.heap.size (.agg #[.string ⟨#[]⟩,.string ⟨#[]⟩]) 2 32 Tryz.underlying22 Ch rfl (by omega) (.slice A9 WE c9) WE (aM ac) rfl pF.o rfl (by simp[Value.oneCell']) rfl (by unfold maxLen;omega) (by omega) hbase ?_);intro g cap jc jw kC kE Fq vW;have qD:=ap jw;have jY:=ap kC;clear jw kC)
     have yc:=zG.o.app (x:=⟨u,t⟩) (g:=g) (cap:=cap) (Y:=jc) rfl (by rw[Jo.o];exact jY.o) (by rw[Jo.o];exact qD.o);rw[Jo.o] at yc;have aaa:=ap yc;clear yc
     go_roundg (n-(j+1))
     case measure=>have:=sN.o;omega
     case rel=>exact⟨j+1,by first|rfl|go_num,rfl,by omega,by rw[bu,ie.o];exact aaa.o⟩
    have eD:j=n:=by omega
    have kG:¬(j:Int)<(n:Int):=by omega
    have pN:=je.o;rw[show l.take j=l by rw[eD,←zK.o,List.take_length]] at pN
    have jZ:=ap (show lj w rv M ((i+1)*1000000) ((Opm.sX la lb (i+1)).map (·.pre)) (Opm.sX la lb (i+1)) _ wr from by
     rw[Qv.o];obtain⟨m,D,seen,hs,hm,hx⟩:=pN.s;exact⟨⟨m,D,seen,hs,by omega,hx⟩,pN.o,pN.b,pN.r⟩)
    clear pN eD;go_wp2
    go_roundg (2-(i+1))
    case measure=>have:=dQ.o;omega
    case rel=>exact⟨i+1,by first|rfl|go_num,rfl,by omega,jZ.o⟩
  have hie:i=2:=by omega
  subst hie;have dg:¬((2:Nat):Int)<2:=by omega
  obtain⟨A',c',rfl,hr⟩:=HI.o.o;have HR:=ap (show wo.ownsRow w.heap.size 37 2 (.slice A' (Opm.gh la lb).length c') (Opm.gh la lb).length (aM (Opm.gh la lb))∧Below w.heap.size w wo from⟨hr,HI.o.b⟩);clear hr;go_wp2;go_ret;exact⟨A',c',rfl,HR.o⟩
end
section
open Go.RowKit Go.WideShapes

theorem RS{a b:List UInt8}(h:a≠b):aa a≠aa b:=fun e=>h (str_inj e)
theorem RR{a b:List UInt8}(h:a≠b):((aa a).toList==(aa b).toList)=false:=by
 rw[ByteArray.toList_eq,ByteArray.toList_eq,aZ,aZ];exact beq_eq_false_iff_ne.2 h
theorem VT(l:List UInt8)(w:World)(hs:l.length≤200000) :
  Calls Tryz.prog 24 #[.string (aa l)] w fun e w'=>e=.returned (.bool (Tx.jA l))∧Below w.heap.size w w':=by
 have H1:=ap (akl l w hs);have H2:=ap (fun W=>Wl l W hs);unfold Tx.jA
 cases hv:Tx.right l with
 | false=>
  rw[hv] at H1;clear hv
  go_enter Tryz.func24,Tryz.ntmps24
  go_wp2_with fail
  refine H1.o.mono ?_;rintro e w1 ⟨rfl,hb⟩;have HB:=ap hb;clear hb;dsimp only;go_wp2;go_ret;exact⟨rfl,HB.o⟩
 | true=>
  rw[hv] at H1;clear hv
  by_cases he:Tx.line l=l
  ·rw[decide_eq_true he];rw[he] at H2;clear he
   go_enter Tryz.func24,Tryz.ntmps24
   go_wp2_with fail
   refine H1.o.mono ?_;rintro e w1 ⟨rfl,hb⟩;have HB:=ap hb;clear hb;dsimp only
   go_wp2_with fail
   refine (H2.o w1).mono ?_;rintro e w2 ⟨rfl,hb⟩;have ag:=ap (HB.o.trans (hb.mono HB.o.size));clear hb;dsimp only;go_wp2;go_ret;exact⟨rfl,ag.o⟩
  rw[decide_eq_false he];have hne:=RS he;have hbq:=RR he;clear he;generalize Tx.line l=m at *
  go_enter Tryz.func24,Tryz.ntmps24
  go_wp2_with fail
  refine H1.o.mono ?_;rintro e w1 ⟨rfl,hb⟩;have HB:=ap hb;clear hb;dsimp only
  go_wp2_with fail
  refine (H2.o w1).mono ?_;rintro e w2 ⟨rfl,hb⟩;have ag:=ap (HB.o.trans (hb.mono HB.o.size));clear hb;dsimp only;go_wp2;go_ret;exact⟨rfl,ag.o⟩
end
section
open Go.RowKit Go.WideShapes

theorem ab4{P:Program}(w:World)(base:Nat)(t u ty e:TypeId)(i:TypeInfo)(ht:P.underlying t=some (.slice e))(hu:P.underlying u=some .string)(hi:P.info? e=some i)(hz:i.zero=some (.int .u8 0))
  (hsize:i.size=1) (hby:i.bytes=1) (v:Value) (n:Nat) (xs:List Value) (hown:w.ownsRow base e 1 v n xs) (s:ByteArray) (hbytes:n+s.size≤140737488355328)
  {v':Value} {w':World} (hr:(Builtin.append_ #[t,u] ty #[v,.string s]).run P w=.ok v' w'):v'.ownBlock=v.ownBlock∨v'.ownBlock=some w.heap.size:=by
 have jz:xs.length=n:=by simpa using hown.1
 rcases hown.2 with ⟨rfl,rfl⟩|⟨g,cap,cur,rfl,jr,hg,LZ,hcm,hcs,apC⟩
 ·by_cases hm:s.size=0
  ·left
   have hf:=Lib.run_firstCells_string (P:=P) w 1 s;rw[hm] at hf;simp[Builtin.append_,run_underlying ht,run_underlying hu,sizeOf,typeInfo,hi,hsize,Builtin.lenOf,hm,hf] at hr;rw[←hr.1]
  right
  have h:=run_append_nil_string (P:=P) w t u ty e i (.int .u8 0) ht hu hi hz s (by omega) (by omega) (by rw[hby];omega);rw[hr] at h;injection h with h1 _
  rw[h1];rfl
 by_cases hroom:n+s.size≤cap
 ·left
  have aoE:cur.size=cap:=by simpa using hcs
  have h:=Lib.run_append_room_string (P:=P) w t u ty e i ht hu hi hsize g n cap cur hg s hroom (by omega);rw[hr] at h;injection h with h1 _
  rw[h1];rfl
 right
 have holds:∀j u,xs[j]?=some u→w.cell? ((⟨g,0,none⟩:Addr).add j)=some u:=hown.cells (g:=g) rfl;have h:=Lib.run_append_grow_string (P:=P) w t u ty e i (.int .u8 0) ht hu hi hz ⟨g,0,none⟩ n cap xs (by rw[hsize];simpa using jz) holds s (by omega) (by omega) (by rw[hby];exact growslice_fits (by omega) (by omega));rw[hr] at h;injection h with h1 _
 rw[h1];rfl
theorem anL{P:Program}(w:World){ops:Array Oper}{rest:List Oper}{o:Oper}{a:Act}{Q:Exit→Act→World→Prop}(hgd:o.guard=none)(sl x:Operand)(t u:TypeId)
  (ho:o.op=.call { callee:=.builtin .append,args:=#[sl,x],argTypes:=#[t,u] })
  (base:Nat) (e:TypeId) (ht:P.underlying t=some (.slice e)) (hu:P.underlying u=some .string) (eL:(P.info? e).map (fun i=>(i.zero,i.size,i.bytes))=some (some (.int .u8 0),1,1))
  (v:Value) (n:Nat) (xs:List Value) (hs:a.eval sl=v) (hown:w.ownsRow base e 1 v n xs) (s:ByteArray) (hx:a.eval x=.string s)
  (hbytes:n+s.size≤140737488355328) (hbase:base≤w.heap.size)
  (h:∀v' w',w'.ownsRow base e 1 v' (n+s.size) (xs++Lib.strCells s)→w.grownBy w' v.ownBlock→(v'.ownBlock=v.ownBlock∨v'.ownBlock=some w.heap.size)→wpList P ops Q rest (a.put o.dst v') w'):wpList P ops Q (o :: rest) a w:=by
 refine wpList_plain hgd fun K hK=>?_;obtain⟨i,hi,hz,hsize,hby⟩:=info_parts eL;obtain⟨v',w',hr,h2,h3,_⟩:=Lib.run_append_own_string (P:=P) w base t u o.type e i ht hu hi hz hsize hby v n xs hown s (by unfold maxLen;omega) hbytes hbase;have h4:=ab4 (P:=P) w base t u o.type e i ht hu hi hz hsize hby v n xs hown s hbytes hr;unfold Oper.wp execOp;simp only[ho,resolve,invoke,builtin,Sem.run_bind,Sem.run_pure,Result.andThen_ok,List.map_toArray,List.map_cons,List.map_nil,hs,hx,hr];exact hK _ _ (h v' w' h2 h3 h4)
def Bf(B b:Nat)(l:List UInt8)(r:Option Nat)(w:World):Prop :=
 B≤b∧∃p v,(p=.pointer none∨p=.pointer (some ⟨b,0,none⟩))∧ae w b 52 #[p,v]∧w.ownsRow B 5 1 v l.length (Lib.byteCells l)∧v.ownBlock=r
structure Fz(b:Nat)(r:Option Nat)(w w':World):Prop where
 os:w'.os=w.os
 tape:w'.tape=w.tape
 output:w'.output=w.output
 size:w.heap.size≤w'.heap.size
 block:∀k,k<w.heap.size→k≠b→some k≠r→w'.heap[k]?=w.heap[k]?
theorem Fz.refl(b:Nat)(r:Option Nat)(w:World):Fz b r w w:=⟨rfl,rfl,rfl,Nat.le_refl _,fun _ _ _ _=>rfl⟩
theorem Bf.bx{B b:Nat}{l:List UInt8}{r:Option Nat}{w:World}(h:Bf B b l r w):Bx B b l w:=by
 obtain⟨hB,p,v,hp,hk,ho,_⟩:=h;have hat:Lib.BuilderAt 52 5 B b p (Lib.byteCells l) w:=⟨hB,v,hk,by rw[Lib.byteCells_length];exact ho,bR ho hk (by decide)⟩
 rcases hp with rfl|rfl
 ·exact .inl hat
 exact .inr hat
theorem Bf.fresh(w:World):Bf w.heap.size w.heap.size [] none (w.alloc (.cells #[.pointer none,.slice none 0 0] 52)) :=
 ⟨Nat.le_refl _,_,_,.inl rfl,ae.new w _ _,World.ownsRow_nil _ _ _ _,rfl⟩
def Bg(W0:World)(B b:Nat)(r0:Option Nat)(l:List UInt8)(W:World):Prop:=∃r,Bf B b l r W∧(r=r0∨∃k,r=some k∧W0.heap.size≤k)∧Fz b r0 W0 W
theorem Bg.step{W0 W W':World}{B b:Nat}{r0 r:Option Nat}{l':List UInt8}(h0:r=r0∨∃k,r=some k∧W0.heap.size≤k)(hz:Fz b r0 W0 W)(h:Bg W B b r l' W'):Bg W0 B b r0 l' W':=by
 obtain⟨r',hb,hr,hf⟩:=h;refine⟨r',hb,?_,⟨hf.os.trans hz.os,hf.tape.trans hz.tape,hf.output.trans hz.output,Nat.le_trans hz.size hf.size,fun k hk hne LO=>(hf.block k (Nat.lt_of_lt_of_le hk hz.size) hne ?_).trans (hz.block k hk hne LO)⟩⟩
 ·rcases hr with rfl|⟨k,rfl,hk⟩
  ·exact h0
  exact .inr ⟨k,rfl,Nat.le_trans hz.size hk⟩
 rcases h0 with rfl|⟨k0,rfl,iT⟩
 ·exact LO
 intro e;injection e with e;omega
theorem Sa{B b:Nat}{l:List UInt8}{r:Option Nat}{w:World}(h:Bf B b l r w) :
  Calls Tryz.prog 36 #[.pointer (some ⟨b,0,none⟩)] w fun e w'=>e=.returned (.tuple #[])∧∃v,ae w' b 52 #[.pointer (some ⟨b,0,none⟩),v]∧w'.ownsRow B 5 1 v l.length (Lib.byteCells l)∧v.ownBlock=r∧Fz b r w w':=by
 obtain⟨hB,p,v,hp,hk,ho,hr⟩:=h;have hne:=bR ho hk (by decide)
 rcases hp with rfl|rfl
 ·refine (Sd b w (hk.cell 0) (by unfold ae at hk;simp[World.shape?,hk]) (hk.frozen 0)).mono ?_;rintro e w' ⟨rfl,rfl⟩;refine⟨rfl,v,by simpa using hk.aH 0 (.pointer (some ⟨b,0,none⟩)),ownsRow_setCell_other ho hne _,hr,⟨rfl,rfl,rfl,by simp[World.setCell],fun k bu h1 h2=>Below.heap_setCell _ _ _ _ (by exact h1)⟩⟩
 refine (Sg b w (hk.cell 0)).mono ?_;rintro e w' ⟨rfl,rfl⟩;exact⟨rfl,v,hk,ho,hr,Fz.refl _ _ _⟩
theorem Ts{B b:Nat}{r:Option Nat}{l':List UInt8}{w w1 w2:World}{v v':Value}(hB:B≤b)(hf:Fz b r w w1)(hk:ae w1 b 52 #[.pointer (some ⟨b,0,none⟩),v])(hr:v.ownBlock=r)(hne:v.ownBlock≠some b)
  (ho:w2.ownsRow B 5 1 v' l'.length (Lib.byteCells l')) (hg:w1.grownBy w2 v.ownBlock) (hat:v'.ownBlock=v.ownBlock∨∃k,v'.ownBlock=some k∧w1.heap.size≤k):Bg w B b r l' (w2.setCell ⟨b,1,none⟩ v'):=by
 have bu:ae w2 b 52 #[.pointer (some ⟨b,0,none⟩),v]:=hk.grown hg (fun e=>hne e.symm);have Fx:=bR ho bu (by decide);refine⟨v'.ownBlock,⟨hB,_,v',.inr rfl,by simpa using bu.aH 1 v',ownsRow_setCell_other ho Fx _,rfl⟩,?_,⟨hg.os.trans hf.os,hg.tape.trans hf.tape,hg.output.trans hf.output,?_,fun k h1 h2 h3=>?_⟩⟩
 ·rcases hat with h|⟨k,h,aI⟩
  ·exact .inl (h.trans hr)
  exact .inr ⟨k,h,Nat.le_trans hf.size aI⟩
 ·have:=hf.size;have:=hg.size;simp only[World.setCell,Array.size_modify];omega
 rw[Below.heap_setCell _ _ _ _ (by exact h2),hg.block k (Nat.lt_of_lt_of_le h1 hf.size) (by rw[hr];exact h3)];exact hf.block k h1 h2 h3
theorem anR{B b:Nat}{l:List UInt8}{r:Option Nat}{w:World}(m:List UInt8)(h:Bf B b l r w)(hlen:l.length+m.length≤140737488355328)(il:B≤w.heap.size) :
  Calls Tryz.prog 19 #[.pointer (some ⟨b,0,none⟩),.string (aa m)] w fun e w'=>(∃v,e=.returned v)∧Bg w B b r (l++m) w':=by
 have hB:=h.1;have HC:=ap (Sa h);have UZ:(aa m).size=m.length:=aO m;have HM:=ap UZ;clear h
 go_enter Tryz.func19,Tryz.ntmps19
 go_wp2_with fail
 refine HC.o.mono ?_;rintro e w1 ⟨rfl,v,hk,ho,hr,hf⟩;have hne:=bR ho hk (by decide);have HK:=ap hk;have HO:=ap ho;have HF:=ap hf;have Hr:=ap hr;have HN:=ap hne;have c0:=hk.cell 0;have c1:=hk.cell 1;have hsz:=hf.size;have HB:=ap hB;have Uq:B≤w1.heap.size:=Nat.le_trans il hsz;clear hk ho hr hf hne UZ hB;dsimp only
 go_wp2_with (at_builtin;go_loud (refine anL w1 rfl _ _ 50 9 rfl B 5 Tryz.underlying50 Tryz.underlying9 F5 _ _ _ rfl HO.o (aa m) rfl (by rw[HM.o];exact hlen) Uq ?_);intro v' w2 bg cK Bh;have bu:=HK.o.grown cK (fun e=>HN.o e.symm);have d0:=bu.cell 0;have d1:=bu.cell 1;have f1:=bu.frozen 1;have aK:=ap bg;have Iu:=ap cK;have sy:=ap Bh;obtain⟨ao,cap,rfl⟩:=r6 bg;clear bg cK Bh bu)
 go_ret2;refine⟨⟨_,rfl⟩,?_⟩;refine Ts HB.o HF.o HK.o Hr.o HN.o ?_ Iu.o (sy.o.imp id fun h=>⟨_,h,Nat.le_refl _⟩);have h:=aK.o;rw[HM.o] at h;rw[List.length_append,Er];exact h
theorem anp{B b:Nat}{l:List UInt8}{r:Option Nat}{w:World}(c:UInt8)(h:Bf B b l r w)(hlen:l.length+1≤140737488355328)(il:B≤w.heap.size) :
  Calls Tryz.prog 37 #[.pointer (some ⟨b,0,none⟩),.int .u8 (c.toNat:Nat)] w fun e w'=>e=.returned .nilIface∧Bg w B b r (l++[c]) w':=by
 have hB:=h.1;have HC:=ap (Sa h);obtain⟨i0,hi,hz0,hz1,hz2⟩:=info_parts F5;clear h
 go_enter Tryz.func37,Tryz.ntmps37
 go_wp2_with fail
 refine HC.o.mono ?_;rintro e w1 ⟨rfl,v,hk,ho,hr,hf⟩;have hne:=bR ho hk (by decide);have HK:=ap hk;have HO:=ap ho;have HF:=ap hf;have Hr:=ap hr;have HN:=ap hne;have c0:=hk.cell 0;have c1:=hk.cell 1;have hsz:=hf.size;have HB:=ap hB;have Uq:B≤w1.heap.size:=Nat.le_trans il hsz;clear hk ho hr hf hne hB;dsimp only
 go_wp2_with (at_builtin;refine wpList_append_own_at _ rfl _ _ 50 rfl B 5 i0 (.int .u8 0) 1 1 Tryz.underlying50 hi hz0 hz1 hz2 rfl (by decide) _ _ _ rfl (HO.o.alloc _) ⟨w1.heap.size,0,none⟩ 1 1 [.int .u8 (c.toNat:Nat)] rfl rfl ?c1 ?c2 ?c3 ?c4 ?c5 ?_)
 case c1=>
  intro j u hj
  match j,hj with
  | 0,hj=>simp at hj;subst hj;simp[Addr.add]
 case c2=>intro u hu;simp at hu;subst hu;rfl
 case c3=>unfold maxLen;omega
 case c4=>omega
 case c5=>simp;omega
 intro v' w2 bg cK _ Bh;have bz:w1.grownBy w2 v.ownBlock:=⟨cK.os,cK.tape,cK.output,Nat.le_trans (by simp) cK.size,fun k hk hne=>(cK.block k (by simp;omega) hne).trans (Below.heap_alloc w1 _ k hk)⟩
 have Ui:v'.ownBlock=v.ownBlock∨∃k,v'.ownBlock=some k∧w1.heap.size≤k:=by
  rcases Bh with h|h
  ·exact .inl h
  exact .inr ⟨_,h,by simp⟩
 have bu:=HK.o.grown bz (fun e=>HN.o e.symm);have d0:=bu.cell 0;have d1:=bu.cell 1;have f1:=bu.frozen 1;have aK:=ap bg;have Iu:=ap bz;have sy:=ap Ui;obtain⟨ao,cap,rfl⟩:=r6 bg;clear bg cK bz Bh Ui bu;go_wp2;go_ret;refine⟨rfl,?_⟩;refine Ts HB.o HF.o HK.o Hr.o HN.o ?_ Iu.o sy.o;rw[List.length_append,Er];exact aK.o
end
section
open Go.RowKit Go.WideShapes

namespace Tx
def dy(q:Bool)(c:UInt8):List UInt8 :=
 if c=38 then [38,97,109,112,59] else if c=60 then [38,108,116,59] else if c=62 then [38,103,116,59] else if c=13 then [38,35,49,51,59]
 else if q=true∧c=34 then [38,113,117,111,116,59] else if q=true∧c=9 then [38,35,57,59] else if q=true∧c=10 then [38,35,49,48,59] else [c]
def escape(q:Bool)(l:List UInt8):List UInt8:=l.flatMap (dy q)
theorem ad1(q:Bool)(c:UInt8):(dy q c).length≤6:=by
 unfold dy
 repeat' split
 all_goals simp
theorem tj(q:Bool)(l:List UInt8):(escape q l).length≤6*l.length:=by
 unfold escape
 induction l with
 | nil=>simp
 | cons c l ih=>rw[List.flatMap_cons,List.length_append,List.length_cons];have:=ad1 q c;omega
theorem SP{q:Bool}{l:List UInt8}{j:Nat}{c:UInt8}(h:l[j]?=some c):escape q (l.take (j+1))=escape q (l.take j)++dy q c:=by
 unfold escape;rw[List.take_add_one,h,List.flatMap_append];simp
end Tx
theorem Bf.go{B b:Nat}{l:List UInt8}{r:Option Nat}{w w':World}(h:Bf B b l r w)(hb:Below w.heap.size w w'):Bf B b l r w':=by
 obtain⟨hB,p,v,hp,hk,ho,hr⟩:=h;exact⟨hB,p,v,hp,hk.go hb,CZ ho hb,hr⟩
theorem acy{B b g j:Nat}{l:List UInt8}{r:Option Nat}{w:World}{k:IntKind}{z:Int}(h:Bf B b l r w)(hc:w.cell? ⟨g,j,none⟩=some (.int k z)):g≠b:=by
 rintro rfl;obtain⟨_,p,v,hp,hk,ho,_⟩:=h;rw[hk.cell] at hc;obtain⟨A,c,rfl⟩:=r6 ho
 match j,hc with
 | 0,hc=>rcases hp with rfl|rfl<;>simp at hc
 | 1,hc=>simp at hc
 | j+2,hc=>simp at hc
theorem Bg.below{W0 W:World}{B b:Nat}{l:List UInt8}{w:World}(h:Bg W0 B b none l W)(hb:Below B w W0)(hB:B≤b)(hs:B≤W0.heap.size):Below B w W:=by
 obtain⟨r,_,_,hz⟩:=h;exact⟨hz.os.trans hb.os,hz.tape.trans hb.tape,hz.output.trans hb.output,Nat.le_trans hb.size hz.size,fun k hk=>(hz.block k (by omega) (by omega) (by simp)).trans (hb.block k hk)⟩
theorem SN(q:Bool)(l:List UInt8)(w:World)(hs:l.length≤1000000000) :
  Calls Tryz.prog 20 #[.string (aa l),.bool q] w fun e w'=>e=.returned (.string (aa (Tx.escape q l)))∧Below w.heap.size w w':=by
 obtain⟨W0,g,cap,ny,hb,hg,hat⟩:=Eu (aa l) (w.alloc (.cells #[.pointer none,.slice none 0 0] 52));have Py:=ap ((Bf.fresh w).go hb);have cu:=ap ((ay w (.cells #[.pointer none,.slice none 0 0] 52)).trans (hb.mono (by simp)));have hw0:w.heap.size<W0.heap.size:=Nat.lt_of_lt_of_le (by simp) hb.size;have fw:=ap hat;obtain⟨N,hN⟩:∃N,l.length=N:=⟨_,rfl⟩;have hsz:(aa l).size=N:=by rw[aO,hN]
 rw[hsz] at ny;rw[hN] at hs;have HN:=ap hN;have qJ:=ap hsz;clear hb hat hN hsz
 go_enter Tryz.func20,Tryz.ntmps20
 go_wp2
 go_loopg [11] N (fun gk v11 wr=>∃j:Nat,gk=N-j∧j≤N∧v11=.int .i64 (j:Int)∧Bg W0 w.heap.size w.heap.size none (Tx.escape q (l.take j)) wr)
 case atStart=>exact⟨0,rfl,by omega,rfl,⟨none,Py.o,.inl rfl,Fz.refl _ _ _⟩⟩
 case round=>
  obtain⟨j,au,hj,rfl,jr⟩:=hrel;have Hg:=ap au;have Il:=ap jr;clear au jr
  by_cases hlt:j<N
  ·obtain⟨c,hc⟩:∃c,l[j]?=some c:=⟨_,List.getElem?_eq_getElem (by rw[HN.o];exact hlt)⟩;have hc0:=fw.o j c (by rw[aZ];exact hc);have dG:=acy Py.o hc0;obtain⟨r,oL,hr,hz⟩:=Il.o
   have y0:wr.cell? ⟨g,j,none⟩=some (.int .u8 (c.toNat:Nat)):=by
    have e:=hz.block g hg dG (by simp);unfold World.cell? at hc0 ⊢;dsimp only at hc0 ⊢;rwa[e]
   have Pn:=ap oL;have Hr:=ap hr;have HZ:=ap hz;have HE:=ap (Tx.SP (q:=q) hc);have nI:=Tx.tj q (l.take j);have af9:(Tx.escape q (l.take j)).length≤6000000000:=Nat.le_trans nI (by rw[List.length_take];omega);have pR:w.heap.size≤wr.heap.size:=Nat.le_trans (Nat.le_of_lt hw0) hz.size;have ma:=ap (fun m (h:m.length≤10)=>anR m Pn.o (by omega) pR);have j4:=ap (anp c Pn.o (by omega) pR);clear hc hc0 oL hr hz nI af9
   have key:∀w2,Bg wr w.heap.size w.heap.size r (Tx.escape q (l.take j)++Tx.dy q c) w2→Bg W0 w.heap.size w.heap.size none (Tx.escape q (l.take (j+1))) w2:=fun w2 h=>by
    rw[HE.o];exact Bg.step Hr.o HZ.o h
   have Key:=ap key;clear key

   cases q with
   | true=>
    by_cases hcc:c=38
    ·subst hcc;have bc:=ap (show Tx.dy true 38=[38,97,109,112,59] by unfold Tx.dy;simp);rw[bc.o] at Key;clear j4;have HW:=ap (ma.o [38,97,109,112,59] (by decide))
     go_wp2_with fail
     refine HW.o.mono ?_;rintro e w2 ⟨⟨v,rfl⟩,af⟩;have ag:=ap af;clear af;dsimp only;go_wp2
     go_roundg (N-(j+1))
     case measure=>have:=Hg.o;omega
     case rel=>exact⟨j+1,rfl,by omega,by first|rfl|go_num,Key.o _ ag.o⟩
    have lB:((c.toNat:Int)==38)=false:=by
     have:c.toNat≠38:=fun e=>hcc (UInt8.toNat_inj.1 e)
     simpa using (show ¬(c.toNat:Int)=38 by omega)
    have Ie:=ap hcc;clear hcc
    by_cases hcc:c=60
    ·subst hcc;have bc:=ap (show Tx.dy true 60=[38,108,116,59] by unfold Tx.dy;simp);rw[bc.o] at Key;clear j4;have HW:=ap (ma.o [38,108,116,59] (by decide))
     go_wp2_with fail
     refine HW.o.mono ?_;rintro e w2 ⟨⟨v,rfl⟩,af⟩;have ag:=ap af;clear af;dsimp only;go_wp2
     go_roundg (N-(j+1))
     case measure=>have:=Hg.o;omega
     case rel=>exact⟨j+1,rfl,by omega,by first|rfl|go_num,Key.o _ ag.o⟩
    have tD:((c.toNat:Int)==60)=false:=by
     have:c.toNat≠60:=fun e=>hcc (UInt8.toNat_inj.1 e)
     simpa using (show ¬(c.toNat:Int)=60 by omega)
    have Ig:=ap hcc;clear hcc
    by_cases hcc:c=62
    ·subst hcc;have bc:=ap (show Tx.dy true 62=[38,103,116,59] by unfold Tx.dy;simp);rw[bc.o] at Key;clear j4;have HW:=ap (ma.o [38,103,116,59] (by decide))
     go_wp2_with fail
     refine HW.o.mono ?_;rintro e w2 ⟨⟨v,rfl⟩,af⟩;have ag:=ap af;clear af;dsimp only;go_wp2
     go_roundg (N-(j+1))
     case measure=>have:=Hg.o;omega
     case rel=>exact⟨j+1,rfl,by omega,by first|rfl|go_num,Key.o _ ag.o⟩
    have h62:((c.toNat:Int)==62)=false:=by
     have:c.toNat≠62:=fun e=>hcc (UInt8.toNat_inj.1 e)
     simpa using (show ¬(c.toNat:Int)=62 by omega)
    have Ih:=ap hcc;clear hcc
    by_cases hcc:c=13
    ·subst hcc;have bc:=ap (show Tx.dy true 13=[38,35,49,51,59] by unfold Tx.dy;simp);rw[bc.o] at Key;clear j4;have HW:=ap (ma.o [38,35,49,51,59] (by decide))
     go_wp2_with fail
     refine HW.o.mono ?_;rintro e w2 ⟨⟨v,rfl⟩,af⟩;have ag:=ap af;clear af;dsimp only;go_wp2
     go_roundg (N-(j+1))
     case measure=>have:=Hg.o;omega
     case rel=>exact⟨j+1,rfl,by omega,by first|rfl|go_num,Key.o _ ag.o⟩
    have h13:((c.toNat:Int)==13)=false:=by
     have:c.toNat≠13:=fun e=>hcc (UInt8.toNat_inj.1 e)
     simpa using (show ¬(c.toNat:Int)=13 by omega)
    have Ia:=ap hcc;clear hcc
    by_cases hcc:c=34
    ·subst hcc;have bc:=ap (show Tx.dy true 34=[38,113,117,111,116,59] by decide);rw[bc.o] at Key;clear j4;have HW:=ap (ma.o [38,113,117,111,116,59] (by decide))
     go_wp2_with fail
     refine HW.o.mono ?_;rintro e w2 ⟨⟨v,rfl⟩,af⟩;have ag:=ap af;clear af;dsimp only;go_wp2
     go_roundg (N-(j+1))
     case measure=>have:=Hg.o;omega
     case rel=>exact⟨j+1,rfl,by omega,by first|rfl|go_num,Key.o _ ag.o⟩
    have h34:((c.toNat:Int)==34)=false:=by
     have:c.toNat≠34:=fun e=>hcc (UInt8.toNat_inj.1 e)
     simpa using (show ¬(c.toNat:Int)=34 by omega)
    have ZP:=ap hcc;clear hcc
    by_cases hcc:c=9
    ·subst hcc;have bc:=ap (show Tx.dy true 9=[38,35,57,59] by decide);rw[bc.o] at Key;clear j4;have HW:=ap (ma.o [38,35,57,59] (by decide))
     go_wp2_with fail
     refine HW.o.mono ?_;rintro e w2 ⟨⟨v,rfl⟩,af⟩;have ag:=ap af;clear af;dsimp only;go_wp2
     go_roundg (N-(j+1))
     case measure=>have:=Hg.o;omega
     case rel=>exact⟨j+1,rfl,by omega,by first|rfl|go_num,Key.o _ ag.o⟩
    have h9:((c.toNat:Int)==9)=false:=by
     have:c.toNat≠9:=fun e=>hcc (UInt8.toNat_inj.1 e)
     simpa using (show ¬(c.toNat:Int)=9 by omega)
    have H9:=ap hcc;clear hcc
    by_cases hcc:c=10
    ·subst hcc;have bc:=ap (show Tx.dy true 10=[38,35,49,48,59] by decide);rw[bc.o] at Key;clear j4;have HW:=ap (ma.o [38,35,49,48,59] (by decide))
     go_wp2_with fail
     refine HW.o.mono ?_;rintro e w2 ⟨⟨v,rfl⟩,af⟩;have ag:=ap af;clear af;dsimp only;go_wp2
     go_roundg (N-(j+1))
     case measure=>have:=Hg.o;omega
     case rel=>exact⟨j+1,rfl,by omega,by first|rfl|go_num,Key.o _ ag.o⟩
    have KJ:((c.toNat:Int)==10)=false:=by
     have:c.toNat≠10:=fun e=>hcc (UInt8.toNat_inj.1 e)
     simpa using (show ¬(c.toNat:Int)=10 by omega)
    have ZO:=ap hcc;clear hcc
    have bc:=ap (show Tx.dy true c=[c] by
     unfold Tx.dy;rw[if_neg Ie.o,if_neg Ig.o,if_neg Ih.o,if_neg Ia.o,if_neg (fun h=>ZP.o h.2),if_neg (fun h=>H9.o h.2),if_neg (fun h=>ZO.o h.2)])
    rw[bc.o] at Key;clear ma;have HW:=ap j4.o
    go_wp2_with fail
    refine HW.o.mono ?_;rintro e w2 ⟨rfl,af⟩;have ag:=ap af;clear af;dsimp only;go_wp2
    go_roundg (N-(j+1))
    case measure=>have:=Hg.o;omega
    case rel=>exact⟨j+1,rfl,by omega,by first|rfl|go_num,Key.o _ ag.o⟩
   | false=>
    by_cases hcc:c=38
    ·subst hcc;have bc:=ap (show Tx.dy false 38=[38,97,109,112,59] by unfold Tx.dy;simp);rw[bc.o] at Key;clear j4;have HW:=ap (ma.o [38,97,109,112,59] (by decide))
     go_wp2_with fail
     refine HW.o.mono ?_;rintro e w2 ⟨⟨v,rfl⟩,af⟩;have ag:=ap af;clear af;dsimp only;go_wp2
     go_roundg (N-(j+1))
     case measure=>have:=Hg.o;omega
     case rel=>exact⟨j+1,rfl,by omega,by first|rfl|go_num,Key.o _ ag.o⟩
    have lB:((c.toNat:Int)==38)=false:=by
     have:c.toNat≠38:=fun e=>hcc (UInt8.toNat_inj.1 e)
     simpa using (show ¬(c.toNat:Int)=38 by omega)
    have Ie:=ap hcc;clear hcc
    by_cases hcc:c=60
    ·subst hcc;have bc:=ap (show Tx.dy false 60=[38,108,116,59] by unfold Tx.dy;simp);rw[bc.o] at Key;clear j4;have HW:=ap (ma.o [38,108,116,59] (by decide))
     go_wp2_with fail
     refine HW.o.mono ?_;rintro e w2 ⟨⟨v,rfl⟩,af⟩;have ag:=ap af;clear af;dsimp only;go_wp2
     go_roundg (N-(j+1))
     case measure=>have:=Hg.o;omega
     case rel=>exact⟨j+1,rfl,by omega,by first|rfl|go_num,Key.o _ ag.o⟩
    have tD:((c.toNat:Int)==60)=false:=by
     have:c.toNat≠60:=fun e=>hcc (UInt8.toNat_inj.1 e)
     simpa using (show ¬(c.toNat:Int)=60 by omega)
    have Ig:=ap hcc;clear hcc
    by_cases hcc:c=62
    ·subst hcc;have bc:=ap (show Tx.dy false 62=[38,103,116,59] by unfold Tx.dy;simp);rw[bc.o] at Key;clear j4;have HW:=ap (ma.o [38,103,116,59] (by decide))
     go_wp2_with fail
     refine HW.o.mono ?_;rintro e w2 ⟨⟨v,rfl⟩,af⟩;have ag:=ap af;clear af;dsimp only;go_wp2
     go_roundg (N-(j+1))
     case measure=>have:=Hg.o;omega
     case rel=>exact⟨j+1,rfl,by omega,by first|rfl|go_num,Key.o _ ag.o⟩
    have h62:((c.toNat:Int)==62)=false:=by
     have:c.toNat≠62:=fun e=>hcc (UInt8.toNat_inj.1 e)
     simpa using (show ¬(c.toNat:Int)=62 by omega)
    have Ih:=ap hcc;clear hcc
    by_cases hcc:c=13
    ·subst hcc;have bc:=ap (show Tx.dy false 13=[38,35,49,51,59] by unfold Tx.dy;simp);rw[bc.o] at Key;clear j4;have HW:=ap (ma.o [38,35,49,51,59] (by decide))
     go_wp2_with fail
     refine HW.o.mono ?_;rintro e w2 ⟨⟨v,rfl⟩,af⟩;have ag:=ap af;clear af;dsimp only;go_wp2
     go_roundg (N-(j+1))
     case measure=>have:=Hg.o;omega
     case rel=>exact⟨j+1,rfl,by omega,by first|rfl|go_num,Key.o _ ag.o⟩
    have h13:((c.toNat:Int)==13)=false:=by
     have:c.toNat≠13:=fun e=>hcc (UInt8.toNat_inj.1 e)
     simpa using (show ¬(c.toNat:Int)=13 by omega)
    have Ia:=ap hcc;clear hcc
    have bc:=ap (show Tx.dy false c=[c] by
     unfold Tx.dy;rw[if_neg Ie.o,if_neg Ig.o,if_neg Ih.o,if_neg Ia.o,if_neg (fun h=>by cases h.1),if_neg (fun h=>by cases h.1),if_neg (fun h=>by cases h.1)])
    rw[bc.o] at Key;clear ma;have HW:=ap j4.o
    go_wp2_with fail
    refine HW.o.mono ?_;rintro e w2 ⟨rfl,af⟩;have ag:=ap af;clear af;dsimp only;go_wp2
    go_roundg (N-(j+1))
    case measure=>have:=Hg.o;omega
    case rel=>exact⟨j+1,rfl,by omega,by first|rfl|go_num,Key.o _ ag.o⟩
  ·have oN:j=N:=by omega
   subst oN;obtain⟨r,oL,hr,hz⟩:=Il.o;have pR:w.heap.size≤wr.heap.size:=Nat.le_trans (Nat.le_of_lt hw0) hz.size;have HS:=ap (oL.bx.str pR);have bO:=ap (Il.o.below cu.o (Nat.le_refl _) (Nat.le_of_lt hw0));clear oL hr hz;rw[List.take_of_length_le (by rw[HN.o];exact Nat.le_refl _)] at HS
   go_wp2_with fail
   refine HS.o.mono ?_;rintro e w2 ⟨rfl,af⟩;have ag:=ap (bO.o.trans af);clear af;dsimp only;go_wp2;go_ret;exact⟨rfl,ag.o⟩
end
end Go.Proofs.YtpdkeckeekchlaaGreatDoor
