/- opml: the law's two texts and its outline: wakes. And more. -/
import Derived.Test.YtnbmfljhbpfilaaGreatDoorOw01
import Derived.Test.YtnbmfljhbpfilaaGreatDoorOw08
import Derived.Test.YtnbmfljhbpfilaaGreatDoorOw24
import Derived.Test.YtnbmfljhbpfilaaGreatDoorOw29
import Derived.Test.YtnbmfljhbpfilaaGreatDoorOw33
import Derived.Test.YtnbmfljhbpfilaaGreatDoorOw36
import Derived.Test.YtnbmfljhbpfilaaGreatDoorOw37
set_option linter.unusedSimpArgs false
set_option maxRecDepth 100000
set_option maxHeartbeats 8000000
set_option linter.unusedVariables false
namespace Go.Proofs.YtnbmfljhbpfilaaGreatDoor
section
open Go.RowKit Tk Sx Go.WideShapes

namespace Opm
def Xg(r:Except Nat (List ax))(l:List (L×L)):Bool:=match r with
 | .ok x=>decide (x.map (fun d=>(d.pre,d.ns))=l)
 | .error _=>false
def Xf(r:Except Nat (List ax))(n:Nat):Bool:=match r with
 | .ok _=>false
 | .error m=>decide (m=n)
theorem rd1:oF sB=.ok [⟨[117],[98]⟩]:=by
 have h:Xg (oF sB) [([117],[98])]=true:=by kernel_rfl
 unfold Xg at h
 split at h
 ·rename_i x hx
  have h:=of_decide_eq_true h;rw[hx]
  match x,h with
  | [⟨a,b⟩],h=>simp at h;obtain⟨rfl,rfl⟩:=h;rfl
 cases h
theorem rd2:oF sD=.error 43:=by
 have h:Xf (oF sD) 43=true:=by kernel_rfl
 unfold Xf at h
 split at h
 ·cases h
 rename_i m hm
 rw[hm,of_decide_eq_true h]
theorem ahh:may [⟨[117],[60]⟩]=true:=by kernel_rfl
def t3:L:=[60,111,112,109,108,32,118,101,114,115,105,111,110,61,34,50,46,48,34,62,60,104,101,97,100,47,62,60,98,111,100,121,62,60,111,117,116,108,105,110,101,32,116,101,120,116,61,34,38,108,116,59,34,32,120,109,108,85,114,108,61,34,117,34,47,62,60,47,98,111,100,121,62,60,47,111,112,109,108,62]
theorem alZ:text [⟨[117],[60]⟩]=t3:=of_decide_eq_true (by kernel_rfl)
theorem adL:∀e∈sB,e.attrs.length≤1000000∧∀a∈e.attrs,gP a.name∧a.val.length≤100000:=by
 intro e he;simp only[sB,List.mem_cons,List.not_mem_nil,or_false] at he
 rcases he with rfl|rfl|rfl|rfl|rfl|rfl|rfl|rfl<;>refine⟨by simp,fun a ha=>?_⟩<;>simp at ha
 ·subst ha;exact⟨⟨by decide,by decide⟩,by decide⟩
 rcases ha with rfl|rfl<;>exact⟨⟨by decide,by decide⟩,by decide⟩
theorem adM:∀e∈sD,e.attrs.length≤1000000∧∀a∈e.attrs,gP a.name∧a.val.length≤100000:=by
 intro e he;simp only[sD,List.mem_cons,List.not_mem_nil,or_false] at he
 rcases he with rfl|rfl<;>exact⟨by simp,fun a ha=>by cases ha⟩
end Opm
theorem amK(w:World)(hg:Gl w)(ia:6≤w.heap.size):Calls Tryz.prog 6 #[] w fun e w'=>e=.returned (.bool true)∧Below w.heap.size w w':=by
 have H1:=hide (Jb Opm.t1 Opm.sB w hg ia (by decide) (by decide) Opm.aiv Opm.adQ Opm.akO Opm.akL Opm.amQ Opm.adL (by decide));have H2:=hide (fun W (hb:Below w.heap.size w W)=>Jb Opm.t2 Opm.sD W (hg.below hb) (Nat.le_trans ia hb.size) (by decide) (by decide) Opm.aiw Opm.adR Opm.akP Opm.akM Opm.amR Opm.adM (by decide));rw[Opm.rd1] at H1;simp only[Opm.rd2] at H2;clear hg ia
 go_enter Tryz.func6,Tryz.ntmps6
 go_wp2_with fail
 refine H1.out.mono ?_;rintro e w1 ⟨aq,A,c,rfl,hc,hr⟩;obtain⟨b,off,rfl,jC,x0,x1⟩:=hr.o5 (k:=0) (by simp);simp only[List.getElem_cons_zero] at x0 x1;have ay:=hide aq;have aeV:=aq.size;have HX:=hide (show w1.cell? ⟨b,off+0*2,none⟩=_∧w1.cell? ⟨b,off+0*2+1,none⟩=_ from⟨x0,x1⟩);clear aq hr x0 x1 hc H1;dsimp only
 go_wp2_with fail
 refine (H2.out w1 ay.out).mono ?_;rintro e w2 ⟨af,rfl⟩;have ah:=hide (ay.out.trans (af.mono ay.out.size));have Zu:=hide af;have TK:=af.size;clear af H2;dsimp only;have Ty:=ae.new w2 27 #[.string (aa [117]),.string (aa [60])]
 have H3:=hide ((abf [⟨[117],[60]⟩] (some ⟨w2.heap.size,0,none⟩) 1 (w2.alloc (.cells #[.string (aa [117]),.string (aa [60])] 27)) ⟨rfl,fun _=>⟨w2.heap.size,0,rfl,by simp,fun j u hu=>by
  rw[Nat.zero_add,Ty.cell j]
  simpa[bP,nQ] using hu⟩⟩ (by simp) (by simp)))
 rw[Opm.ahh,if_pos rfl,Opm.alZ] at H3;have aB:=az w2 (.cells #[.string (aa [117]),.string (aa [60])] 27);have aw:=hide aB;clear Ty aB
 go_wp2_with fail
 refine H3.out.mono ?_;rintro e w4 ⟨rfl,lq⟩;have cG:=hide ((Zu.out.trans ((aw.out.trans (lq.mono aw.out.size)).mono TK)));have tV:=hide (ay.out.trans (cG.out.mono aeV));have x0:=(cG.out.cell (p:=⟨b,off+0*2,none⟩) jC).trans HX.out.1;have x1:=(cG.out.cell (p:=⟨b,off+0*2+1,none⟩) jC).trans HX.out.2;clear lq H3 HX;rw[Nat.zero_mul,Nat.add_zero] at x0 x1;have e1:(aa [117]).toList=[117]:=by rw[ByteArray.toList_eq,aP]
 have e2:(aa [98]).toList=[98]:=by rw[ByteArray.toList_eq,aP]
 have e3:(aa Opm.t3).toList=[60,111,112,109,108,32,118,101,114,115,105,111,110,61,34,50,46,48,34,62,60,104,101,97,100,47,62,60,98,111,100,121,62,60,111,117,116,108,105,110,101,32,116,101,120,116,61,34,38,108,116,59,34,32,120,109,108,85,114,108,61,34,117,34,47,62,60,47,98,111,100,121,62,60,47,111,112,109,108,62]:=by rw[ByteArray.toList_eq,aP];rfl
 dsimp only;go_wp2;go_ret;exact⟨rfl,tV.out⟩
end
section
open Go.RowKit Go.WideShapes




theorem ajJ(s:ByteArray)(w:World)(hs:s.size≤1000000000)(hv:Utf.valid s.data.toList=true) :
  Calls Tryz.prog 72 #[.string s] w fun e w'=>∃A c,e=.returned (.tuple #[.slice A (bc s.data.toList).length c,.bool true])∧Below w.heap.size w w'∧Reads w' w'.heap.size 1 A (bc s.data.toList).length (ar (bc s.data.toList)):=by
 have Hv0:=hide hv;clear hv
 go_enter Tryz.func72,Tryz.ntmps72
 go_wp2
 go_loopg [4,5] s.size (fun g vo va wr=>∃(k:Nat) (A:Option Addr) (c:Nat) (pre:List Int),g=s.size-k∧k≤s.size∧pre.length≤k∧va=.int .i64 k∧vo=.slice A pre.length c∧Utf.valid (s.data.toList.drop k)=true∧
  bc s.data.toList=pre++(Utf.from_ k (s.data.toList.drop k)).map (·.2)∧wr.ownsRow w.heap.size 3 1 (.slice A pre.length c) pre.length (ar pre)∧Below w.heap.size w wr)
 case atStart=>exact⟨0,none,0,[],rfl,by omega,by simp,rfl,rfl,Hv0.out,rfl,World.ownsRow_nil _ _ _ _,Below.refl _ _⟩
 case round=>
  obtain⟨k,A,c,pre,hg,hk,hn,rfl,rfl,hv,hsc,hown,hb⟩:=hrel;have Hv:=hide hv;have Hg:=hide hg;have kV:=hide hsc;clear hv hg hsc
  by_cases hlt:k<s.size
  ·have hp:=WQ s k hlt;have hval:=YC s k hlt;have fu:=Eb s k hlt;have HN:=hide (Mv s k wr (by omega) (by omega) hs);rw[Int.toNat_natCast] at HN;obtain⟨f,hf⟩:∃f,Utf.piece (s.data.toList.drop k)=f:=⟨_,rfl⟩;rw[hf] at hp hval HN fu;rw[Hv.out] at hval;have dX:¬f.1<0:=fun h=>by rw[if_pos h] at hval;cases hval
   rw[if_neg dX] at hval;have Dg:=hide hval;have qd:=hide fu;have e1:Hid (kA f=.tuple #[.int .i64 f.1,.int .i64 f.2,.bool true]):=by show kA f=_;unfold kA;rw[if_neg dX]
   obtain⟨m,hm⟩:∃m,pre.length=m:=⟨_,rfl⟩;have Hm:=hide hm;rw[hm] at hown hn ⊢;clear hf hval fu hm
   go_wp2_with fail
   refine HN.out.mono ?_;rintro e w' ⟨rfl,rfl⟩;rw[e1.out]
   go_wp2_with (first
    | (at_builtin;go_loud (refine fG wr rfl (.tmp 22) (.tmp 24) 124 rfl w.heap.size (.int .i64 0) 1 8 Tryz.underlying124 fD rfl (by omega) (.slice A m c) m (ar pre) rfl hown (cs:=[.int .i64 f.1]) rfl (by simp[Value.oneCell']) rfl (by unfold maxLen;omega) (by omega) hb.size ?_);intro g' cap' w1 hown1 cL j9 fL aq))
   go_roundg (s.size-(k+f.2.toNat))
   case measure=>have:=Hg.out;omega
   case rel=>
    have e2:(pre++[f.1]).length=m+1:=by rw[List.length_append,Hm.out];rfl
    refine⟨k+f.2.toNat,some ⟨g',0,none⟩,cap',pre++[f.1],rfl,by omega,by rw[e2];omega,int_eq (by omega),by rw[e2],Dg.out.symm,?_,?_,hb.grown cL hb.size (fun j hj=>(aG hown j hj).1)⟩
    ·rw[kV.out,qd.out];simp
    rw[e2,show ar (pre++[f.1])=ar pre++[.int .i64 f.1] by simp[ar]];exact hown1
  have hall:(Utf.from_ k (s.data.toList.drop k)).map (·.2)=[]:=by rw[List.drop_of_length_le (by rw[bL];omega),Utf.qC];rfl
  have hsc:=kV.out;rw[hall,List.append_nil] at hsc;have br:=hide hsc;clear hall hsc;go_wp2;go_ret2;exact⟨A,c,by rw[br.out];rfl,hb,by rw[br.out];exact Reads.eH hown⟩
end
section
open Go.RowKit Go.WideShapes

theorem aju(r:Int)(w:World)(h:Utf.isScalar r=false):Calls Tryz.prog 195 #[.int .i64 r] w fun e w'=>e=.returned (.bool false)∧w'=w:=by
 by_cases h1:0≤r
 ·by_cases h2:r≤1114111
  ·have h3:55296≤r∧r≤57343:=by
    simp[Utf.isScalar] at h;omega
   have d1:decide (0≤r)=true:=decide_eq_true h1;have d2:decide (r≤1114111)=true:=decide_eq_true h2;have d3:decide (r<55296)=false:=decide_eq_false (by omega);have d4:decide (57343<r)=false:=decide_eq_false (by omega);clear h h1 h2 h3
   go_enter Tryz.func195,Tryz.ntmps195
   go_wp2;go_ret;exact⟨rfl,rfl⟩
  have d1:decide (0≤r)=true:=decide_eq_true h1;have d2:decide (r≤1114111)=false:=decide_eq_false h2;clear h h1 h2
  go_enter Tryz.func195,Tryz.ntmps195
  go_wp2;go_ret;exact⟨rfl,rfl⟩
 have d1:decide (0≤r)=false:=decide_eq_false h1;clear h h1
 go_enter Tryz.func195,Tryz.ntmps195
 go_wp2;go_ret;exact⟨rfl,rfl⟩
theorem ajw(r:Int)(w:World)(h:Utf.isScalar r=false):Calls Tryz.prog 178 #[.int .i64 r] w fun e w'=>e=.returned (.int .i64 0)∧w'=w:=by
 have HI:=hide (fun W=>aju r W h);clear h
 go_enter Tryz.func178,Tryz.ntmps178
 go_wp2_with fail
 refine cq (HI.out _) ?_
 go_wp2;go_ret;exact⟨rfl,rfl⟩
theorem ajI(r:Int)(w:World)(h:Utf.isScalar r=false):Calls Tryz.prog 145 #[.int .i64 r] w fun e w'=>e=.returned (.tuple #[.string ⟨#[]⟩,.bool false])∧w'=w:=by
 have HI:=hide (fun W=>ajw r W h);clear h
 go_enter Tryz.func145,Tryz.ntmps145
 go_wp2_with fail
 refine cq (HI.out _) ?_
 go_wp2;go_ret2;exact⟨rfl,rfl⟩
theorem Xo(l:List Int)(A:Option Addr)(c:Nat)(w:World)(hr:Reads w w.heap.size 1 A l.length (ar l))(hs:l.length≤100000000) :
  Calls Tryz.prog 109 #[.slice A l.length c] w fun e w'=>e=.returned (nw l)∧Below w.heap.size w w':=by
 obtain⟨L,hL⟩:∃L,l.length=L:=⟨_,rfl⟩;have HL:=hide hL;rw[hL] at hr hs;rw[hL];have HR:=hide hr;have G7:=hide (fun r W h=>ajH r W h);have uj:=hide (fun r W h=>ajI r W h);clear hL hr
 go_enter Tryz.func109,Tryz.ntmps109
 go_wp2
 go_loopg [4,5,6,7] L (fun gk v4 v5 v6 v7 wr=>∃(j:Nat) (A':Option Addr) (c' m:Nat),gk=L-j∧j≤L∧v5=.int .i64 (j:Int)∧v4=.slice A' m c'∧m=(Nf.bytesOf (l.take j)).length∧wr.ownsRow w.heap.size 5 1 (.slice A' m c') m (cm (Nf.bytesOf (l.take j)))∧(∀x∈l.take j,Utf.isScalar x=true)∧Below w.heap.size w wr)
 case atStart=>exact⟨0,none,0,0,rfl,by omega,rfl,rfl,rfl,World.ownsRow_nil _ _ _ _,by simp,Below.refl _ _⟩
 case round=>
  obtain⟨j,A',c',m,au,hj,rfl,rfl,hm,ho,hsc,hb⟩:=hrel;have Hg:=hide au;have HO:=hide ho;have br:=hide hsc;have HB:=hide hb;have Hm:=hide hm;clear au ho hsc hb hm
  by_cases hlt:j<L
  ·obtain⟨r,gX⟩:∃r,l[j]?=some r:=⟨_,List.getElem?_eq_getElem (by rw[HL.out];exact hlt)⟩;obtain⟨gb,off,rfl,dA,hcell⟩:=HR.out.2 (by omega);have y0:wr.cell? ⟨gb,off+j,none⟩=some (.int .i64 r):=(HB.out.cell dA).trans (hcell j _ (by unfold ar;rw[List.getElem?_map,gX];rfl));have HN:=hide (Nf.Ro gX);have zq:=hide gX;have ji:m≤400000000:=by rw[Hm.out];refine Nat.le_trans (Nf.Js _) ?_;rw[List.length_take];omega
   clear hcell gX
   cases fC:Utf.isScalar r with
   | false=>
    have HP:=hide (uj.out r wr fC)
    have HV:=hide (show nw l=.tuple #[.string ⟨#[]⟩,.bool false] by
     unfold nw Nf.jM
     rw[if_neg (fun h=>by
      have:=List.all_eq_true.1 h r (List.mem_of_getElem? zq.out);rw[fC] at this
      cases this)])
    clear fC
    go_wp2_with fail
    refine HP.out.mono ?_;rintro e w2 ⟨rfl,hw2⟩;subst hw2;dsimp only;go_wp2;go_ret2;exact⟨by rw[HV.out];rfl,HB.out⟩
   | true=>
    have HP:=hide (G7.out r wr fC);have IG:=hide fC;have cM:((Utf.put r).map bv).length≤4:=by rw[List.length_map];exact yI r
    obtain⟨pl,hpl⟩:∃pl,(Utf.put r).map bv=pl:=⟨_,rfl⟩;unfold kW cF at HP;rw[hpl] at cM HP HN;clear fC hpl
    go_wp2_with fail
    refine HP.out.mono ?_;rintro e w2 ⟨rfl,af⟩;have HT:=hide (show fT (aa pl) pl from aP pl);have ah:=hide (HB.out.trans (af.mono HB.out.size));have aJ:=hide (Cw HO.out af);have aK:=ah.out.size;have Da:=hide cM;clear af;dsimp only
    go_wp2_with (at_builtin;go_loud (refine YT w2 rfl (.tmp 24) (.tmp 25) 58 9 rfl w.heap.size 5 Tryz.underlying58 Tryz.underlying9 vM _ m (Nf.bytesOf (l.take j)) rfl aJ.out (aa pl) pl HT.out rfl (by omega) aK ?_);intro A3 c3 w3 bW bw;have bZ:=hide bW;have aw:=hide (ah.out.grown bw ah.out.size (fun k e=>(aG aJ.out k e).1));clear bW bw)
    go_roundg (L-(j+1))
    case measure=>have:=Hg.out;omega
    case rel=>
     refine⟨j+1,A3,c3,m+pl.length,rfl,by omega,by first|rfl|go_num,rfl,by rw[HN.out,List.length_append,←Hm.out],by rw[HN.out];exact bZ.out,?_,aw.out⟩;rw[tL zq.out];intro x hx
     rcases List.mem_append.1 hx with hx|hx
     ·exact br.out x hx
     rw[List.mem_singleton] at hx;subst hx;exact IG.out
  have xP:j=L:=by omega
  have cN:l.take j=l:=List.take_of_length_le (by rw[HL.out];omega);have HT:=hide cN;have aJ:=hide (show wr.ownsRow w.heap.size 5 1 (.slice A' m c') m (cm (Nf.bytesOf l)) by have:=HO.out;rwa[cN] at this)
  have HV:=hide (show nw l=.tuple #[.string (aa (Nf.bytesOf l)),.bool true] by
    have hh:=br.out;rw[cN] at hh;unfold nw Nf.jM;rw[if_pos (List.all_eq_true.2 hh)])
  clear xP cN
  go_wp2_with (refine oK rfl 58 9 5 _ rfl Tryz.underlying58 Tryz.underlying5 Tryz.underlying9 w.heap.size _ m (by rfl) (Nf.bytesOf l) aJ.out ?_;intro t ht;have Ht:=hide (NB ht);clear ht)
  go_ret2;exact⟨by rw[HV.out,←Ht.out];rfl,HB.out⟩
end
section
namespace Nf
def carry(c:Int):List Int→List Int
 | []=>[c]
 | b :: l=>if 0<cls b∧cls b<cls c then b :: carry c l else c :: carry b l
def pass:List Int→List Int
 | []=>[]
 | c :: l=>carry c l
def rz:Nat→List Int→List Int
 | 0,l=>l
 | n+1,l=>rz n (pass l)
theorem Rt:∀(l:List Int) (c:Int),(carry c l).length=l.length+1
 | [],c=>rfl
 | b :: l,c=>by
  unfold carry
  split<;>rw[List.length_cons,Rt l,List.length_cons]
theorem aiJ:∀l:List Int,(pass l).length=l.length
 | []=>rfl
 | c :: l=>Rt l c
theorem Vp{a b:Int}(h:cls b<cls a):∀acc:List Int,ins b (ins a acc)=ins a (ins b acc)
 | []=>by
  have e1:ins b [a]=[b,a]:=by rw[ins,if_pos h]
  have e2:ins a [b]=[b,a]:=by rw[ins,if_neg (by omega)];rfl
  show ins b [a]=ins a [b];rw[e1,e2]
 | y :: l=>by
  by_cases h1:cls b<cls y
  ·by_cases h2:cls a<cls y
   ·have e1:ins a (y :: l)=a :: y :: l:=by rw[ins,if_pos h2]
    have e2:ins b (y :: l)=b :: y :: l:=by rw[ins,if_pos h1]
    rw[e1,e2,ins,if_pos h,ins,if_neg (by omega),e1]
   have e1:ins a (y :: l)=y :: ins a l:=by rw[ins,if_neg h2]
   have e2:ins b (y :: l)=b :: y :: l:=by rw[ins,if_pos h1]
   rw[e1,e2,ins,if_pos h1,ins,if_neg (by omega),e1]
  have e1:ins a (y :: l)=y :: ins a l:=by rw[ins,if_neg (by omega)]
  have e2:ins b (y :: l)=y :: ins b l:=by rw[ins,if_neg h1]
  rw[e1,e2,ins,if_neg h1,ins,if_neg (by omega),Vp h l]
theorem XQ{a b:Int}(h:cls b<cls a)(P M:List Int):aA (P++a :: b :: M)=aA (P++b :: a :: M):=by
 unfold aA;rw[List.foldl_append,List.foldl_append,List.foldl_cons,List.foldl_cons,List.foldl_cons,List.foldl_cons,Vp h]
theorem Ce(n:Nat)(r:Int)(l:List Int):runs (n+1) (r :: l)=(r :: marks l) :: runs n (l.drop (marks l).length):=by rw[runs]
theorem vR{b:Int}(h:0<cls b)(l:List Int):marks (b :: l)=b :: marks l:=by
 unfold marks;rw[List.takeWhile_cons,if_pos (by simpa using h)]
theorem X9{a b:Int}(h0:0<cls b)(h:cls b<cls a)(Y:List Int):∀(n:Nat) (P:List Int),(runs n (P++a :: b :: Y)).flatMap aA=(runs n (P++b :: a :: Y)).flatMap aA
 | 0,_=>by simp[runs]
 | n+1,[]=>by
  rw[List.nil_append,List.nil_append,Ce,Ce,vR h0,vR (show 0<cls a by omega),List.flatMap_cons,List.flatMap_cons];rw[List.length_cons,List.length_cons,List.drop_succ_cons,List.drop_succ_cons];have:=XQ h [] (marks Y);rw[List.nil_append,List.nil_append] at this;rw[this]
 | n+1,p :: P=>by
  rw[List.cons_append,List.cons_append,Ce,Ce,List.flatMap_cons,List.flatMap_cons]
  have e:∀X:List Int,marks (P++X)=if (marks P).length=P.length then P++marks X else marks P:=fun X=>by
   unfold marks;exact List.takeWhile_append
  rw[e,e]
  by_cases hp:(marks P).length=P.length
  ·rw[if_pos hp,if_pos hp,vR (show 0<cls a by omega),vR h0,vR h0,vR (show 0<cls a by omega)];have h1:=XQ h (p :: P) (marks Y);rw[List.cons_append,List.cons_append] at h1;rw[h1];congr 2
   have e2:∀u v:Int,(P++u :: v :: Y).drop (P++u :: v :: marks Y).length=Y.drop (marks Y).length:=fun u v=>by
    rw[List.length_append,List.drop_append];simp
   rw[e2,e2]
  rw[if_neg hp,if_neg hp];have hl:(marks P).length≤P.length:=by unfold marks;exact (List.takeWhile_sublist _).length_le
  rw[List.drop_append_of_le_length hl,List.drop_append_of_le_length hl,X9 h0 h Y n]
theorem ak2{a b:Int}(h0:0<cls b)(h:cls b<cls a)(P Y:List Int):sort (P++a :: b :: Y)=sort (P++b :: a :: Y):=by
 unfold sort;rw[X9 h0 h Y];simp
theorem Nl:∀(l:List Int) (c:Int) (P:List Int),sort (P++carry c l)=sort (P++c :: l)
 | [],c,P=>rfl
 | b :: l,c,P=>by
  unfold carry;split
  ·rename_i hc
   have:=Nl l c (P++[b]);rw[List.append_assoc,List.append_assoc] at this;exact this.trans (ak2 hc.1 hc.2 P l).symm
  have:=Nl l b (P++[c]);rw[List.append_assoc,List.append_assoc] at this;exact this
theorem ak0(l:List Int):sort (pass l)=sort l:=by
 cases l with
 | nil=>rfl
 | cons c l=>exact Nl l c []
theorem XR:∀(n:Nat) (l:List Int),sort (rz n l)=sort l
 | 0,_=>rfl
 | n+1,l=>(XR n _).trans (ak0 l)
def gt(c:Int)(ctx:List Int):Nat:=(ctx.filter fun y=>decide (c<cls y)).length
def Bd(k:Nat):List Int→List Int→Prop
 | _,[]=>True
 | ctx,b :: l=>(cls b=0∨gt (cls b) ctx≤k)∧Bd k (if cls b=0 then [] else b :: ctx) l
theorem Aa(c y:Int)(ctx:List Int):gt c (y :: ctx)=(if c<cls y then 1 else 0)+gt c ctx:=by
 unfold gt;rw[List.filter_cons]
 by_cases h:c<cls y
 ·rw[if_pos (by simpa using h),if_pos h,List.length_cons];omega
 rw[if_neg (by simpa using h),if_neg h];omega
theorem aet(c:Int)(ctx:List Int):gt c ctx≤ctx.length:=by unfold gt;exact List.length_filter_le _ _
theorem J0{c:Int}:∀{ctx:List Int},(∀y∈ctx,cls y≤c)→gt c ctx=0
 | [],_=>rfl
 | y :: ctx,h=>by
  rw[Aa,if_neg (by have:=h y (by simp);omega),J0 (fun z hz=>h z (by simp[hz]))]
theorem Bd.ctx{k:Nat}:∀{l c1 c2:List Int},(∀c,gt c c1=gt c c2)→Bd k c1 l→Bd k c2 l
 | [],_,_,_,_=>trivial
 | b :: l,c1,c2,h,hb=>by
  unfold Bd at hb ⊢;refine⟨by rw[←h];exact hb.1,?_⟩
  by_cases h0:cls b=0
  ·have h2:=hb.2;rw[if_pos h0] at h2 ⊢;exact h2
  have h2:=hb.2;rw[if_neg h0] at h2 ⊢;exact Bd.ctx (fun c=>by rw[Aa,Aa,h]) h2
theorem Du{k:Nat}:∀(l:List Int) (c:Int) (ctx:List Int),(cls c=0∨∀y∈ctx,cls y≤cls c)→Bd (k+1) (if cls c=0 then [] else c :: ctx) l→Bd k ctx (carry c l)
 | [],c,ctx,h,_=>by
  unfold carry Bd;refine⟨?_,trivial⟩
  rcases h with h|h
  ·exact .inl h
  exact .inr (by rw[J0 h];omega)
 | b :: l,c,ctx,h,hb=>by
  have uZ:=(nP b).1;unfold carry
  by_cases hs:0<cls b∧cls b<cls c
  ·rw[if_pos hs]
   have hc:∀y∈ctx,cls y≤cls c:=by
    rcases h with h|h
    ·omega
    exact h
   rw[if_neg (by omega)] at hb;unfold Bd at hb ⊢;rw[if_neg (by omega)] at hb ⊢;obtain⟨h1,h2⟩:=hb;refine⟨.inr ?_,Du l c (b :: ctx) (.inr fun y hy=>?_) ?_⟩
   ·rcases h1 with h1|h1
    ·omega
    rw[Aa,if_pos hs.2] at h1;omega
   ·rcases List.mem_cons.1 hy with rfl|hy
    ·omega
    exact hc y hy
   rw[if_neg (by omega)];exact Bd.ctx (fun z=>by simp only[Aa];omega) h2
  rw[if_neg hs];unfold Bd;refine⟨?_,?_⟩
  ·rcases h with h|h
   ·exact .inl h
   exact .inr (by rw[J0 h];omega)
  unfold Bd at hb;obtain⟨_,h2⟩:=hb
  by_cases hc0:cls c=0
  ·rw[if_pos hc0] at h2 ⊢;exact Du l b [] (.inr fun y hy=>by cases hy) h2
  rw[if_neg hc0] at h2 ⊢;refine Du l b (c :: ctx) ?_ h2
  by_cases dz:cls b=0
  ·exact .inl dz
  refine .inr fun y hy=>?_;have hcn:=(nP c).1
  rcases List.mem_cons.1 hy with rfl|hy
  ·omega
  rcases h with h|h
  ·omega
  have:=h y hy;omega
theorem ab7{k:Nat}(l:List Int)(h:Bd (k+1) [] l):Bd k [] (pass l):=by
 cases l with
 | nil=>exact trivial
 | cons c l=>exact Du l c [] (.inr fun y hy=>by cases hy) h.2
theorem Ra:∀(l ctx:List Int) (k:Nat),ctx.length+l.length≤k→Bd k ctx l
 | [],_,_,_=>trivial
 | b :: l,ctx,k,h=>by
  rw[List.length_cons] at h;unfold Bd;refine⟨.inr (by have:=aet (cls b) ctx;omega),Ra l _ k ?_⟩;split
  ·simp;omega
  rw[List.length_cons];omega
theorem Rc:∀(n:Nat) (l:List Int),Bd n [] l→Bd 0 [] (rz n l)
 | 0,_,h=>h
 | n+1,l,h=>Rc n _ (ab7 l h)
theorem Re:∀(l ctx:List Int),Bd 0 ctx l→(∀b∈marks l,∀y∈ctx,cls y≤cls b)∧Up (marks l)∧Bd 0 [] (l.drop (marks l).length)
 | [],ctx,_=>by
  unfold marks Up;simp[Bd]
 | b :: l,ctx,h=>by
  have uZ:=(nP b).1;unfold Bd at h
  by_cases h0:cls b=0
  ·have e:marks (b :: l)=[]:=by
    unfold marks;rw[List.takeWhile_cons,if_neg (by simp;omega)]
   rw[e];refine⟨fun x hx=>(by cases hx),List.Pairwise.nil,?_⟩;rw[List.length_nil,List.drop_zero];have h2:=h.2;rw[if_pos h0] at h2;unfold Bd;rw[if_pos h0];exact⟨.inl h0,h2⟩
  rw[if_neg h0] at h;obtain⟨h1,h2⟩:=h;obtain⟨i1,i2,i3⟩:=Re l (b :: ctx) h2;rw[vR (by omega)]
  have hz:∀y∈ctx,cls y≤cls b:=fun y hy=>by
   rcases h1 with h1|h1
   ·omega
   unfold gt at h1;have:=List.length_eq_zero_iff.1 (Nat.le_zero.1 h1);rw[List.filter_eq_nil_iff] at this;have:=this y hy;simp at this;exact this
  refine⟨fun x hx y hy=>?_,?_,?_⟩
  ·rcases List.mem_cons.1 hx with rfl|hx
   ·exact hz y hy
   exact i1 x hx y (by simp[hy])
  ·unfold Up at i2 ⊢;rw[List.pairwise_cons];exact⟨fun x hx=>i1 x hx b (by simp),i2⟩
  rw[List.length_cons,List.drop_succ_cons];exact i3
theorem Ni:∀(n:Nat) (l:List Int),l.length<n→Bd 0 [] l→(runs n l).flatMap aA=l
 | 0,_,h,_=>by omega
 | n+1,[],_,_=>by simp[runs]
 | n+1,r :: t,h,hb=>by
  unfold Bd at hb;obtain⟨i1,i2,i3⟩:=Re t _ hb.2
  have gZ:Up (r :: marks t):=by
   unfold Up at i2 ⊢;rw[List.pairwise_cons];refine⟨fun x hx=>?_,i2⟩
   by_cases h0:cls r=0
   ·have:=(nP x).1;omega
   exact i1 x hx r (by rw[if_neg h0];simp)
  have hl:(t.drop (marks t).length).length<n:=by
   rw[List.length_cons] at h;rw[List.length_drop];omega
  rw[Ce,List.flatMap_cons,←Cm gZ (b8.refl _),Ni n _ hl i3]
  have e:marks t=t.take (marks t).length:=by
   have h2:marks t <+: t:=by unfold marks;exact List.takeWhile_prefix _
   exact List.prefix_iff_eq_take.1 h2
  rw[List.cons_append]
  conv=>lhs;rw[e]
  have h3:(t.take (marks t).length).length=(marks t).length:=by rw[←e]
  rw[h3,List.take_append_drop]
theorem Rl(l:List Int):rz l.length l=sort l:=by
 have h:=Rc l.length l (Ra l [] l.length (by simp));rw[←XR l.length l];unfold sort;exact (Ni _ _ (by omega) h).symm
end Nf
end
section
namespace Nf
def l9(out:List Int)(st c:Int):Bool:=decide (st<0)||(out.drop (st+1).toNat).any fun x=>decide (cls x=0)||decide (c≤cls x)
def o6(s:List Int×Int)(r:Int):List Int×Int :=
 match (if l9 s.1 s.2 (cls r)=true then none else whole (s.1.getD s.2.toNat 0) r) with
 | some w=>(s.1.set s.2.toNat w,s.2)
 | none=>(s.1++[r],if cls r=0 then s.1.length else s.2)
def DI(l:List Int):List Int:=(l.foldl o6 ([],-1)).1
structure sg(s:Cs)(d:List Int×Int):Prop where
 out:s.out=d.1
 st:s.st=d.2
 lo : -1≤s.st
 up:s.st<s.out.length
 le:0≤s.st→∀x∈s.out.drop (s.st+1).toNat,0<cls x∧cls x≤s.hi
 hi:0≤s.st→s.hi = -1∨∃x∈s.out.drop (s.st+1).toNat,cls x=s.hi
theorem sg.blocked{s:Cs}{d:List Int×Int}(h:sg s d)(c:Int)(hc:0≤c):l9 d.1 d.2 c = !decide (0≤s.st∧s.hi<c):=by
 unfold l9;rw[←h.out,←h.st]
 by_cases h0:0≤s.st
 ·rw[decide_eq_false (by omega),Bool.false_or]
  by_cases hh:s.hi<c
  ·rw[decide_eq_true ⟨h0,hh⟩,Bool.not_true,List.any_eq_false];intro x hx;have:=h.le h0 x hx;simp;omega
  rw[decide_eq_false (fun e=>hh e.2),Bool.not_false,List.any_eq_true]
  rcases h.hi h0 with e|⟨x,hx,e⟩
  ·omega
  exact⟨x,hx,by simp;omega⟩
 rw[decide_eq_true (by omega),Bool.true_or,decide_eq_false (fun e=>h0 e.1)];rfl
theorem sg.step{s:Cs}{d:List Int×Int}(h:sg s d)(r:Int):sg (gA s r) (o6 d r):=by
 have hb:=h.blocked (cls r) (nP r).1;have pB:=h.lo;have gZ:=h.up;unfold gA o6;rw[hb]
 have e:(if (!decide (0≤s.st∧s.hi<cls r))=true then none else whole (d.1.getD d.2.toNat 0) r)=(if 0≤s.st∧s.hi<cls r then whole (s.out.getD s.st.toNat 0) r else none):=by
  rw[←h.out,←h.st]
  by_cases hc:0≤s.st∧s.hi<cls r
  ·rw[decide_eq_true hc,if_pos hc];simp
  rw[decide_eq_false hc,if_neg hc];simp
 rw[e]
 cases hw:(if 0≤s.st∧s.hi<cls r then whole (s.out.getD s.st.toNat 0) r else none) with
 | some w=>
  dsimp only
  have hc:0≤s.st:=by
   by_cases hc:0≤s.st∧s.hi<cls r
   ·exact hc.1
   rw[if_neg hc] at hw;cases hw
  have ed:(s.out.set s.st.toNat w).drop (s.st+1).toNat=s.out.drop (s.st+1).toNat:=List.drop_set_of_lt (by omega)
  exact⟨by rw[h.out,h.st],h.st,pB,by rw[List.length_set];exact gZ,fun h0 x hx=>h.le h0 x (ed▸hx),fun h0=>by
   rcases h.hi h0 with e|⟨x,hx,e⟩
   ·exact .inl e
   exact .inr ⟨x,by dsimp only;rw[ed];exact hx,e⟩⟩
 | none=>
  dsimp only
  by_cases hr:cls r=0
  ·rw[if_pos hr,if_pos hr];have ed:(s.out++[r]).drop (((s.out.length:Nat):Int)+1).toNat=[]:=List.drop_eq_nil_of_le (by rw[List.length_append,List.length_singleton];omega);exact⟨by rw[h.out],by rw[h.out],by show (-1:Int)≤((s.out.length:Nat):Int);omega,by show ((s.out.length:Nat):Int)<_;rw[List.length_append,List.length_singleton];omega,fun _ x hx=>(by dsimp only at hx;rw[ed] at hx;cases hx),fun _=>.inl rfl⟩
  rw[if_neg hr,if_neg hr];have hc0:=(nP r).1;have ed:0≤s.st→(s.out++[r]).drop (s.st+1).toNat=s.out.drop (s.st+1).toNat++[r]:=fun h0=>List.drop_append_of_le_length (by omega);refine⟨by rw[h.out],h.st,pB,by dsimp only;rw[List.length_append];omega,fun h0 x hx=>?_,fun h0=>?_⟩
  ·dsimp only at h0 hx ⊢;rw[ed h0] at hx
   rcases List.mem_append.1 hx with hx|hx
   ·have:=h.le h0 x hx;omega
   rw[List.mem_singleton.1 hx];omega
  dsimp only at h0 ⊢;rw[ed h0];refine .inr ?_
  by_cases hm:s.hi≤cls r
  ·exact⟨r,by simp,by omega⟩
  rcases h.hi h0 with e|⟨x,hx,e⟩
  ·omega
  exact⟨x,by simp[hx],by omega⟩
theorem Mh:∀(l:List Int) (s:Cs) (d:List Int×Int),sg s d→sg (l.foldl gA s) (l.foldl o6 d)
 | [],_,_,h=>h
 | r :: l,s,d,h=>Mh l _ _ (h.step r)
theorem acS(l:List Int):DI l=compose l :=
 (Mh l ⟨[],-1,-1⟩ ([],-1) ⟨rfl,rfl,by decide,by decide,fun h=>absurd h (by decide),fun h=>absurd h (by decide)⟩).out.symm
end Nf
end
section
namespace Nf
structure Pr where
 w:Int
 f:Int
 s:Int
def dt:List (Int×List Int) :=
 [(0x300,[65,0xC0,69,0xC8,73,0xCC,79,0xD2,85,0xD9,97,0xE0,101,0xE8,105,0xEC,111,0xF2,117,0xF9]),
  (0x301,[65,0xC1,69,0xC9,73,0xCD,79,0xD3,85,0xDA,89,0xDD,97,0xE1,101,0xE9,105,0xED,111,0xF3,117,0xFA,121,0xFD,0xEA,0x1EBF,0xFC,0x1D8]),
  (0x302,[65,0xC2,69,0xCA,73,0xCE,79,0xD4,85,0xDB,97,0xE2,101,0xEA,105,0xEE,111,0xF4,117,0xFB,0x1EB9,0x1EC7]),
  (0x303,[65,0xC3,78,0xD1,79,0xD5,97,0xE3,110,0xF1,111,0xF5]),
  (0x304,[0xFC,0x1D6]),
  (0x306,[0x418,0x419,0x438,0x439]),
  (0x308,[65,0xC4,69,0xCB,73,0xCF,79,0xD6,85,0xDC,97,0xE4,101,0xEB,105,0xEF,111,0xF6,117,0xFC,121,0xFF,0x415,0x401,0x435,0x451]),
  (0x30A,[65,0xC5,97,0xE5]),
  (0x30C,[67,0x10C,83,0x160,90,0x17D,99,0x10D,115,0x161,122,0x17E]),
  (0x323,[101,0x1EB9]),
  (0x327,[67,0xC7,99,0xE7])]
def mB(m:Int):List Int→List Pr
 | a :: w :: l=>⟨w,a,m⟩ :: mB m l
 | _=>[]
def ma(l:List Pr)(p:Pr):List Pr:=l.takeWhile (fun x=>decide (x.w<p.w))++p :: l.dropWhile (fun x=>decide (x.w<p.w))
def nR:List Pr:=[⟨0x340,0x300,0⟩,⟨0x341,0x301,0⟩,⟨0x2126,0x3A9,0⟩,⟨0x212A,75,0⟩,⟨0x212B,0xC5,0⟩]
def ik:List Pr:=(dt.flatMap fun x=>mB x.1 x.2).foldl ma []++nR
def mz(r:Int):List Pr→Option (Int×Int)
 | []=>none
 | x :: l=>if x.w=r then some (x.f,x.s) else mz r l
def lM(a b:Int):List Pr→Option Int
 | []=>none
 | x :: l=>if x.f=a∧x.s=b∧b≠0 then some x.w else lM a b l
def DK(r:Int):Option (Int×Int) :=
 if fX r then
  if 0<(r-0xAC00) % 28 then some (r-(r-0xAC00) % 28,0x11A7+(r-0xAC00) % 28)
  else some (0x1100+(r-0xAC00) / 28 / 21,0x1161+(r-0xAC00) / 28 % 21)
 else mz r ik
def DR(a b:Int):Option Int :=
 if (0x1100≤a∧a<0x1100+19)∧(0x1161≤b∧b<0x1161+21) then some (0xAC00+((a-0x1100)*21+b-0x1161)*28)
 else if fX a=true∧(a-0xAC00) % 28=0∧(0x11A8≤b∧b<0x11A8+27) then some (a+b-0x11A7)
 else lM a b ik
theorem VN{r:Int}{p:Int×Int}:∀{l:List Pr},mz r l=some p→(⟨r,p.1,p.2⟩:Pr)∈l
 | x :: l,h=>by
  unfold mz at h
  split at h
  ·rename_i hx
   cases h;rw[←hx];exact List.mem_cons_self ..
  exact List.mem_cons_of_mem _ (VN h)
theorem VO{r:Int}:∀{l:List Pr},mz r l=none→∀x∈l,x.w≠r
 | y :: l,h,x,hx=>by
  unfold mz at h
  split at h
  ·cases h
  rename_i hy
  rcases List.mem_cons.1 hx with rfl|hx
  ·exact hy
  exact VO h x hx
theorem Mk{a b v:Int}:∀{l:List Pr},lM a b l=some v→(⟨v,a,b⟩:Pr)∈l∧b≠0
 | x :: l,h=>by
  unfold lM at h
  split at h
  ·rename_i hx
   cases h;rw[←hx.1,←hx.2.1];exact⟨List.mem_cons_self ..,by rw[hx.2.1];exact hx.2.2⟩
  exact⟨List.mem_cons_of_mem _ (Mk h).1,(Mk h).2⟩
theorem VP{a b:Int}:∀{l:List Pr},lM a b l=none→∀x∈l,¬(x.f=a∧x.s=b∧b≠0)
 | y :: l,h,x,hx=>by
  unfold lM at h
  split at h
  ·cases h
  rename_i hy
  rcases List.mem_cons.1 hx with rfl|hx
  ·exact hy
  exact VP h x hx
theorem yi{p:Int×Int}{v:Int}:∀{l:List ((Int×Int)×Int)},lookW p l=some v→(p,v)∈l
 | x :: l,h=>by
  unfold lookW at h
  split at h
  ·rename_i hx
   cases h;rw[←hx];exact List.mem_cons_self ..
  exact List.mem_cons_of_mem _ (yi h)
def NJ(r:Int):Option (Int×Int):=match eU r table with
 | some p=>some p
 | none=>(jK r j2).map fun a=>(a,0)
theorem ait:∀x∈ik,NJ x.w=some (x.f,x.s):=by decide +kernel
theorem alQ:∀x∈table,∃y∈ik,y.w=x.2:=by decide +kernel
theorem adg:∀x∈j2,∃y∈ik,y.w=x.1:=by decide +kernel
theorem aiu:∀x∈ik,x.s≠0→lookW (x.f,x.s) table=some x.w:=by decide +kernel
theorem alU:∀x∈table,x.1.2≠0∧∃y∈ik,y.f=x.1.1∧y.s=x.1.2:=by decide +kernel
theorem ac9(r:Int):DK r=made r:=by
 unfold DK made;split
 ·rfl
 show mz r ik=NJ r
 cases h:mz r ik with
 | some p=>exact (ait _ (VN h)).symm
 | none=>
  have hn:=VO h;unfold NJ
  cases h2:eU r table with
  | some p=>
   obtain⟨y,hy,e⟩:=alQ _ (yh h2);exact absurd e (hn y hy)
  | none=>
   cases h3:jK r j2 with
   | some a=>
    obtain⟨y,hy,e⟩:=adg _ (Fy h3);exact absurd e (hn y hy)
   | none=>rfl
theorem adm(a b:Int):DR a b=whole a b:=by
 unfold DR whole;split
 ·rfl
 split
 ·rfl
 cases h:lM a b ik with
 | some v=>
  obtain⟨h1,h2⟩:=Mk h;exact (aiu _ h1 h2).symm
 | none=>
  have hn:=VP h
  cases h2:lookW (a,b) table with
  | some v=>
   obtain⟨h3,y,hy,e1,e2⟩:=alU _ (yi h2);exact absurd ⟨e1,e2,h3⟩ (hn y hy)
  | none=>rfl
end Nf
end
section
open Go.RowKit Go.WideShapes

theorem ajs(w:World):Calls Tryz.prog 198 #[] w fun e w'=>e=.returned (.slice (some ⟨w.heap.size,0,none⟩) 10 10)∧w'=w.alloc (.cells #[.int .i64 832,.int .i64 768,.int .i64 833,.int .i64 769,.int .i64 8486,.int .i64 937,.int .i64 8490,.int .i64 75,.int .i64 8491,.int .i64 197] 3):=by
 go_enter Tryz.func198,Tryz.ntmps198
 go_wp2;go_ret;exact⟨rfl,rfl⟩
def laid(w:World):List Obj→World
 | []=>w
 | o :: l=>laid (w.alloc o) l
def oG(x:Int×List Int):Obj:=.cells (ar x.2).toArray 3
def mD:Nat→List (Int×List Int)→List Value
 | _,[]=>[]
 | Z,x :: l=>.int .i64 x.1 :: .slice (some ⟨Z,0,none⟩) x.2.length x.2.length :: mD (Z+1) l
theorem ajL(w:World):Calls Tryz.prog 196 #[] w fun e w'=>e=.returned (.slice (some ⟨w.heap.size+11,0,none⟩) 11 11)∧w'=(laid w (Nf.dt.map oG)).alloc (.cells (mD w.heap.size Nf.dt).toArray 241):=by
 go_enter Tryz.func196,Tryz.ntmps196
 go_wp2;go_ret;exact⟨rfl,rfl⟩
end
end Go.Proofs.YtnbmfljhbpfilaaGreatDoor
