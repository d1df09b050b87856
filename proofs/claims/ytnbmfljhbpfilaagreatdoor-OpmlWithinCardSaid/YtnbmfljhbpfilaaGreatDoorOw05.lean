/- Tokens: the scan's value. And more. -/
import Derived.Test.YtnbmfljhbpfilaaGreatDoorOw04
set_option linter.unusedSimpArgs false
set_option maxRecDepth 20000
set_option maxHeartbeats 8000000
set_option linter.unusedVariables false
namespace Go.Proofs.YtnbmfljhbpfilaaGreatDoor
section
open Go.RowKit Tk

theorem WM{c:UInt8}{l:L}(h:[c].isPrefixOf l=true):∃r,l=c :: r:=by
 cases l with
 | nil=>simp at h
 | cons d r=>
  have:c=d:=by simpa using h
  exact⟨r,by rw[this]⟩
theorem MF{c:UInt8}{l:L}(h:[c].isPrefixOf l=false):∀r,l≠c :: r:=by
 intro r e;rw[e] at h;simp at h
theorem mf(s:ByteArray)(a b:Nat):s.data.toList.drop (a+b)=(s.data.toList.drop a).drop b:=by rw[List.drop_drop]
theorem yF{p l:L}(h:p.isPrefixOf l=true):p.length≤l.length:=List.IsPrefix.length_le (List.isPrefixOf_iff_prefix.1 h)

def nN(w:World)(X:Nat)(s:ByteArray)(k:Nat)(o:Option (L×Nat))(e:Ending)(w':World):Prop :=
 ag X w w'∧match o with
  | none=>e=.returned (.tuple #[.string ⟨#[]⟩,.bool false])∧∃k',k≤k'∧k'≤s.size∧Sc w' X s k'
  | some x=>e=.returned (.tuple #[.string (aa x.1),.bool true])∧k+x.2≤s.size∧Sc w' X s (k+x.2)
theorem adB{d:L}(h:[61].isPrefixOf (d.drop (aL d))=false):eqv d=none:=by
 unfold eqv;split
 ·rfl
 rename_i c r e
 rw[if_neg];intro hc;subst hc;exact MF h r e
theorem adC{d r:L}(h:d.drop (aL d)=61 :: r):eqv d=(Tk.quoted (r.drop (aL r))).map fun x=>(x.1,aL d+1+aL r+x.2):=by
 unfold eqv;rw[h];simp

theorem ajf{q:UInt8}{r:L}(h:q=34∨q=39):Tk.quoted (q :: r)=(till [q] r).map fun k=>(r.take k,k+2):=by
 show (if q=34∨q=39 then _ else none)=_;rw[if_pos h]
theorem ajd{t:L}(h1:[34].isPrefixOf t=false)(h2:[39].isPrefixOf t=false):Tk.quoted t=none:=by
 cases t with
 | nil=>rfl
 | cons q r=>
  show (if q=34∨q=39 then _ else none)=_;rw[if_neg];rintro (rfl|rfl)
  ·exact MF h1 r rfl
  exact MF h2 r rfl
theorem qi0(w:World):(Instr.index 151 (.agg #[.string ⟨#[34]⟩,.string ⟨#[39]⟩]) (.int .i64 0)).run Tryz.prog w=.ok (.string ⟨#[34]⟩) w:=by kernel_rfl
theorem qi1(w:World):(Instr.index 151 (.agg #[.string ⟨#[34]⟩,.string ⟨#[39]⟩]) (.int .i64 1)).run Tryz.prog w=.ok (.string ⟨#[39]⟩) w:=by kernel_rfl
theorem Nh(q:UInt8):(⟨#[q]⟩:ByteArray).size≤1000:=by
 have:(⟨#[q]⟩:ByteArray).size=1:=rfl;omega
theorem ajc(X:Nat)(s:ByteArray)(m:Nat)(q:UInt8)(r:L)(bN:6≤X)(hs:s.size≤1000000000)(hm:m+1≤s.size)(hr:s.data.toList.drop (m+1)=r)(hq:q=34∨q=39)(w W:World)(hW:Sc W X s (m+1))(hb:ag X w W)(hg:Gl w) :
  Calls Tryz.prog 119 #[.pointer (some ⟨X,0,none⟩),.string ⟨#[q]⟩] W (nN w X s m (Tk.quoted (q :: r))):=by
 rw[ajf hq]
 cases h:till [q] r with
 | none=>
  refine (al9 W X s ⟨#[q]⟩ (m+1) (by rw[hr];exact h) hW bN (hg.but hb bN) hm hs (Nh q)).mono ?_;rintro e w' ⟨rfl,h1,h2⟩;exact⟨hb.trans h2,rfl,m+1,by omega,hm,h1⟩
 | some n=>
  have hn:=(Cr h).2;have hl:r.length=s.size-(m+1):=by rw[←hr,List.length_drop,bL]
  simp at hn;refine (Gb W X s ⟨#[q]⟩ (m+1) n (by rw[hr];exact h) hW bN (hg.but hb bN) hm hs (Nh q)).mono ?_;rintro e w' ⟨rfl,h1,h2⟩;refine⟨hb.trans h2,?_,by dsimp only;omega,?_⟩
  ·rw[mg,hr,show m+1+n-(m+1)=n by omega]
  have e:(⟨#[q]⟩:ByteArray).size=1:=rfl;rw[e,show m+1+n+1=m+(n+2) by omega] at h1;exact h1
theorem nN.more{w:World}{X:Nat}{s:ByteArray}{k m c:Nat}{o:Option (L×Nat)}{e:Ending}{w':World}(h:nN w X s m o e w')(hm:k+c=m):nN w X s k (o.map fun x=>(x.1,c+x.2)) e w':=by
 cases o with
 | none=>
  obtain⟨h1,h2,k',h3,h4,h5⟩:=h;exact⟨h1,h2,k',by omega,h4,h5⟩
 | some x=>
  obtain⟨h1,h2,h3,h4⟩:=h;refine⟨h1,h2,by dsimp only;omega,?_⟩;rw[show k+(c+x.2)=m+x.2 by omega];exact h4

theorem YF(w:World)(X:Nat)(s:ByteArray)(k:Nat)(hX:Sc w X s k)(bN:6≤X)(hg:Gl w)(ha:k≤s.size)(hs:s.size≤1000000000) :
  Calls Tryz.prog 118 #[.pointer (some ⟨X,0,none⟩)] w (nN w X s k (eqv (s.data.toList.drop k))):=by
 obtain⟨d,hd⟩:∃d,s.data.toList.drop k=d:=⟨_,rfl⟩;have aQ:d.length=s.size-k:=by rw[←hd,List.length_drop,bL]
 obtain⟨a,uX⟩:∃a,aL d=a:=⟨_,rfl⟩;have fW:a≤s.size-k:=by have:=BP d;omega
 have ay:=hide (xj w X s k hX ha hs);have c7:s.data.toList.drop (k+a)=d.drop a:=by rw[mf,hd]
 have HI:=hide fun W (hW:Sc W X s (k+a))=>rh W X s ⟨#[61]⟩ (k+a) hW (by omega) hs (by decide);rw[hd,uX] at ay;rw[c7] at HI;rw[hd]
 cases hp:[61].isPrefixOf (d.drop a) with
 | false=>
  rw[adB (by rw[uX];exact hp)]
  replace HI:=hide fun W hW=>(show Calls Tryz.prog 117 #[.pointer (some ⟨X,0,none⟩),.string ⟨#[61]⟩] W fun e w'=>e=.returned (.bool false)∧Sc w' X s (k+a)∧ag X W w' from by
   have:=HI.out W hW;rw[show ((⟨#[61]⟩:ByteArray).data.toList.isPrefixOf (d.drop a))=false from hp] at this
   simpa using this)
  have HL:=hide (show k+a≤s.size by omega);clear hp hd aQ c7 uX fW;unfold nN
  go_enter Tryz.func118,Tryz.ntmps118
  go_wp2_with fail
  refine ay.out.mono ?_;rintro e w1 ⟨rfl,h1,b1⟩;have B1:=hide b1;have S1:=hide h1;clear b1 h1
  go_wp2_with fail
  refine (HI.out _ S1.out).mono ?_;rintro e w2 ⟨rfl,h2,b2⟩;have B2:=hide (B1.out.trans b2);have S2:=hide h2;clear b2 h2;go_wp2;go_ret2;exact⟨B2.out,rfl,k+a,by omega,HL.out,S2.out⟩
 | true=>
  obtain⟨r,hr⟩:=WM hp;rw[adC (by rw[uX];exact hr),uX]
  replace HI:=hide fun W hW=>(show Calls Tryz.prog 117 #[.pointer (some ⟨X,0,none⟩),.string ⟨#[61]⟩] W fun e w'=>e=.returned (.bool true)∧Sc w' X s (k+a+1)∧ag X W w' from by
   have:=HI.out W hW;rw[show ((⟨#[61]⟩:ByteArray).data.toList.isPrefixOf (d.drop a))=true from hp] at this
   simpa[ByteArray.size] using this)
  have EJ:a+1+r.length=d.length:=by
   have:=congrArg List.length hr;rw[List.length_drop,List.length_cons] at this;omega
  have bg:s.data.toList.drop (k+a+1)=r:=by rw[mf,c7,hr];rfl
  obtain⟨b,b9⟩:∃b,aL r=b:=⟨_,rfl⟩;have bt:b≤r.length:=by have:=BP r;omega
  have ah:=hide fun W (hW:Sc W X s (k+a+1))=>xj W X s (k+a+1) hW (by omega) hs;rw[bg,b9] at ah;rw[b9];obtain⟨m,hm⟩:∃m,k+a+1+b=m:=⟨_,rfl⟩;rw[hm] at ah;have sO:s.data.toList.drop m=r.drop b:=by rw[←hm,mf,bg]
  obtain⟨t,ht⟩:∃t,r.drop b=t:=⟨_,rfl⟩;rw[ht] at sO ⊢;have qP:m+t.length=s.size:=by rw[←ht,List.length_drop];omega
  have HQ:=hide fun (q:UInt8) W (hW:Sc W X s m)=>(show Calls Tryz.prog 117 #[.pointer (some ⟨X,0,none⟩),.string ⟨#[q]⟩] W fun e w'=>e=.returned (.bool ([q].isPrefixOf t))∧Sc w' X s (if [q].isPrefixOf t=true then m+1 else m)∧ag X W w' from by
   have:=rh W X s ⟨#[q]⟩ m hW (by omega) hs (Nh q);rw[sO] at this;exact this)
  have HT:=hide fun (q:UInt8) (hq:q=34∨q=39) (h:[q].isPrefixOf t=true) W (hW:Sc W X s (m+1)) (hb:ag X w W)=>(show Calls Tryz.prog 119 #[.pointer (some ⟨X,0,none⟩),.string ⟨#[q]⟩] W (nN w X s m (Tk.quoted t)) from by
   obtain⟨r2,bG⟩:=WM h;rw[bG] at qP ⊢;rw[List.length_cons] at qP;exact ajc X s m q r2 bN hs (by omega) (by rw[mf,sO,bG];rfl) hq w W hW hb hg)
  have HN:=hide fun (h1:[34].isPrefixOf t=false) (h2:[39].isPrefixOf t=false)=>(show Tk.quoted t=none from ajd h1 h2);have HM:=hide fun (e:Ending) (w':World) (h:nN w X s m (Tk.quoted t) e w')=>(show nN w X s k ((Tk.quoted t).map fun x=>(x.1,a+1+b+x.2)) e w' from h.more (by omega));have HL:=hide (show m≤s.size by omega);generalize Tk.quoted t=o at *
  obtain⟨o',UD⟩:∃o',(o.map fun x:L×Nat=>(x.1,a+1+b+x.2))=o':=⟨_,rfl⟩;rw[UD] at HM ⊢;clear hp hd aQ c7 uX fW hr EJ bg b9 bt hm sO ht qP UD
  go_enter Tryz.func118,Tryz.ntmps118
  go_wp2_with fail
  refine ay.out.mono ?_;rintro e w1 ⟨rfl,h1,b1⟩;have B1:=hide b1;have S1:=hide h1;clear b1 h1
  go_wp2_with fail
  refine (HI.out _ S1.out).mono ?_;rintro e w2 ⟨rfl,h2,b2⟩;have B2:=hide (B1.out.trans b2);have S2:=hide h2;clear b2 h2 B1 S1
  go_wp2_with fail
  refine (ah.out _ S2.out).mono ?_;rintro e w3 ⟨rfl,h3,b3⟩;have B3:=hide (B2.out.trans b3);have S3:=hide h3;clear b3 h3 B2 S2;go_wp2
  go_loopg [14] 2 (fun g v wr=>∃j:Nat,g=2-j∧j≤2∧v=.int .i64 (j:Int)∧(1≤j→[34].isPrefixOf t=false)∧(2≤j→[39].isPrefixOf t=false)∧Sc wr X s m∧ag X w wr)
  case atStart=>exact⟨0,rfl,by omega,rfl,fun h=>absurd h (by omega),fun h=>absurd h (by omega),S3.out,B3.out⟩
  case round=>
   obtain⟨j,hg,hj,rfl,h1,h2,hS,hB⟩:=hrel;have Hg:=hide hg;have H1:=hide h1;have H2:=hide h2;have HS:=hide hS;have HB:=hide hB;clear hg h1 h2 hS hB;have qx0:=qi0 wr;have qx1:=qi1 wr
   rcases (show j=0∨j=1∨j=2 by omega) with rfl|rfl|rfl
   ·cases hc:[(34:UInt8)].isPrefixOf t with
    | true=>
     have iR:=hide (HQ.out 34 _ HS.out);rw[hc,if_pos rfl] at iR;have cg:=hide (HT.out 34 (.inl rfl) hc);clear hc HQ HT
     go_wp2_with fail
     refine iR.out.mono ?_;rintro e w4 ⟨rfl,h4,b4⟩;have B4:=hide (HB.out.trans b4);have S4:=hide h4;clear b4 h4
     go_wp2_with fail
     refine (cg.out _ S4.out B4.out).mono ?_;rintro e w5 hv
     cases o with
     | none=>
      obtain⟨g1,rfl,g2⟩:=hv;have G:=hide (HM.out _ _ ⟨g1,rfl,g2⟩);clear g1 g2 HM cg iR;go_wp2;go_ret2;exact G.out
     | some x=>
      obtain⟨g1,rfl,g2⟩:=hv;have G:=hide (HM.out _ _ ⟨g1,rfl,g2⟩);clear g1 g2 HM cg iR;go_wp2;go_ret2;exact G.out
    | false=>
     have iR:=hide (HQ.out 34 _ HS.out);rw[hc,if_neg (by simp)] at iR;have Hc:=hide hc;clear hc HQ HT
     go_wp2_with fail
     refine iR.out.mono ?_;rintro e w4 ⟨rfl,h4,b4⟩;have B4:=hide (HB.out.trans b4);have S4:=hide h4;clear b4 h4 iR;go_wp2
     go_roundg 1
     case measure=>have:=Hg.out;omega
     case rel=>exact⟨1,rfl,by omega,rfl,fun _=>Hc.out,fun h=>absurd h (by omega),S4.out,B4.out⟩
   ·cases hc:[(39:UInt8)].isPrefixOf t with
    | true=>
     have iR:=hide (HQ.out 39 _ HS.out);rw[hc,if_pos rfl] at iR;have cg:=hide (HT.out 39 (.inr rfl) hc);clear hc HQ HT
     go_wp2_with fail
     refine iR.out.mono ?_;rintro e w4 ⟨rfl,h4,b4⟩;have B4:=hide (HB.out.trans b4);have S4:=hide h4;clear b4 h4
     go_wp2_with fail
     refine (cg.out _ S4.out B4.out).mono ?_;rintro e w5 hv
     cases o with
     | none=>
      obtain⟨g1,rfl,g2⟩:=hv;have G:=hide (HM.out _ _ ⟨g1,rfl,g2⟩);clear g1 g2 HM cg iR;go_wp2;go_ret2;exact G.out
     | some x=>
      obtain⟨g1,rfl,g2⟩:=hv;have G:=hide (HM.out _ _ ⟨g1,rfl,g2⟩);clear g1 g2 HM cg iR;go_wp2;go_ret2;exact G.out
    | false=>
     have iR:=hide (HQ.out 39 _ HS.out);rw[hc,if_neg (by simp)] at iR;have Hc:=hide hc;clear hc HQ HT
     go_wp2_with fail
     refine iR.out.mono ?_;rintro e w4 ⟨rfl,h4,b4⟩;have B4:=hide (HB.out.trans b4);have S4:=hide h4;clear b4 h4 iR;go_wp2
     go_roundg 0
     case measure=>have:=Hg.out;omega
     case rel=>exact⟨2,rfl,by omega,rfl,fun _=>H1.out (by omega),fun _=>Hc.out,S4.out,B4.out⟩
   have ho:=HN.out (H1.out (by omega)) (H2.out (by omega));subst ho;have G:=hide (HM.out (.returned (.tuple #[.string ⟨#[]⟩,.bool false])) wr ⟨HB.out,rfl,m,by omega,HL.out,HS.out⟩);clear HM HQ HT HN;go_wp2;go_ret2;exact G.out
end
section
open Go.RowKit Tk

theorem dropWhile_nil{α:Type}{f:α→Bool}:∀{l:List α},l.dropWhile f=[]↔∀x∈l,f x=true
 | []=>by simp
 | a :: l=>by
  rw[List.dropWhile_cons];split
  ·rename_i h
   rw[dropWhile_nil]
   constructor
   ·intro g x hx
    rcases List.mem_cons.1 hx with rfl|hx
    ·exact h
    exact g x hx
   exact fun g x hx=>g x (List.mem_cons_of_mem _ hx)
  rename_i h
  constructor
  ·intro e;cases e
  intro g;exact absurd (g a (List.mem_cons_self ..)) h
theorem zX{α:Type}{f:α→Bool}{l:List α}{a:α}{r:List α}(h:l.dropWhile f=a :: r):f a=false:=by
 induction l with
 | nil=>simp at h
 | cons b l ih=>
  rw[List.dropWhile_cons] at h
  split at h
  ·exact ih h
  rename_i hb
  cases h
  simpa using hb
theorem amh(l cs:L):Lib.trimS l cs=[]↔l.all (cs.contains ·)=true:=by
 unfold Lib.trimS Lib.trimLeftS Lib.trimRightS;rw[dropWhile_nil,List.all_eq_true]
 constructor
 ·intro h
  cases hd:l.reverse.dropWhile (cs.contains ·) with
  | nil=>
   rw[dropWhile_nil] at hd;exact fun x hx=>hd x (by simpa using hx)
  | cons a r=>
   have h1:=zX hd;have h2:=h a (by rw[hd];simp);rw[h1] at h2;cases h2
 intro h;have:l.reverse.dropWhile (cs.contains ·)=[]:=dropWhile_nil.2 (fun x hx=>h x (by simpa using hx));rw[this];intro x hx;cases hx
theorem ac7(c:UInt8):([48,49,50,51,52,53,54,55,56,57]:L).contains c=digit c:=by
 have:∀n:Fin 256,([48,49,50,51,52,53,54,55,56,57]:L).contains (UInt8.ofNat n.val)=digit (UInt8.ofNat n.val):=by decide +kernel
 have h:=this ⟨c.toNat,c.toNat_lt⟩;rwa[show UInt8.ofNat c.toNat=c from UInt8.ofNat_toNat] at h
theorem X8(s:ByteArray):s.toList=s.data.toList:=ByteArray.toList_eq ..
theorem Nz(s:ByteArray):(s.toList==([]:L))=s.data.toList.isEmpty:=by
 rw[X8]
 cases s.data.toList<;>rfl

def digits(l:L):Bool:=!l.isEmpty&&l.all digit
theorem ac8(s:ByteArray)(w:World)(hs:s.size≤1000000000):Calls Tryz.prog 183 #[.string s] w fun e w'=>e=.returned (.bool (digits s.data.toList))∧Below w.heap.size w w':=by
 have hE:=Nz s;have HT:=hide (Any.strings_Trim_laid Tryz.lays160 (by kernel_rfl) s ⟨#[48,49,50,51,52,53,54,55,56,57]⟩ w (by omega) (by decide) (ascii_of_all (by decide)));have hA:=amh s.data.toList [48,49,50,51,52,53,54,55,56,57]
 have hB:s.data.toList.all (([48,49,50,51,52,53,54,55,56,57]:L).contains ·)=s.data.toList.all digit:=by
  congr 1
  funext c
  exact ac7 c
 rw[hB] at hA;have hD:digits s.data.toList=(!s.data.toList.isEmpty&&s.data.toList.all digit):=rfl;generalize digits s.data.toList=b at *
 generalize s.data.toList.all digit=q at *
 cases he:s.data.toList.isEmpty with
 | true=>
  rw[he] at hE hD;have HD:=hide hD;clear hA hB hD he HT
  go_enter Tryz.func183,Tryz.ntmps183
  go_wp2;go_ret;exact⟨aO (ck (by rw[HD.out];rfl)),Below.refl _ _⟩
 | false=>
  rw[he] at hE hD;obtain⟨t,ht⟩:∃t:ByteArray,(⟨(Lib.trimS s.data.toList [48,49,50,51,52,53,54,55,56,57]).toArray⟩:ByteArray)=t:=⟨_,rfl⟩
  have hT:(t.toList==([]:L))=q:=by
   rw[Nz,←ht];show (Lib.trimS s.data.toList [48,49,50,51,52,53,54,55,56,57]).isEmpty=q;rw[Bool.eq_iff_iff,List.isEmpty_iff,hA]
  replace HT:=hide (show Calls Tryz.prog 199 #[.string s,.string ⟨#[48,49,50,51,52,53,54,55,56,57]⟩] w fun e w'=>e=.returned (.string t)∧Below w.heap.size w w' from by rw[←ht];exact HT.out);have HD:=hide hD;clear hA hB hD he ht
  go_enter Tryz.func183,Tryz.ntmps183
  go_wp2_with fail
  refine HT.out.mono ?_;rintro e w1 ⟨rfl,hb⟩;go_wp2;go_ret;exact⟨aO (ck (by rw[HD.out];rfl)),hb⟩
theorem amJ(s:ByteArray)(w:World)(hs:s.size≤1000000000):Calls Tryz.prog 153 #[.string s] w fun e w'=>e=.returned (.bool (version s.data.toList))∧Below w.heap.size w w':=by
 have HP:=hide (show Calls Tryz.prog 124 #[.string s,.string ⟨#[49,46]⟩] w fun e w'=>e=.returned (.bool ([49,46].isPrefixOf s.data.toList))∧w'=w from Tryz.strings_HasPrefix s ⟨#[49,46]⟩ w)
 have hv:version s.data.toList=([49,46].isPrefixOf s.data.toList&&digits (s.data.toList.drop 2)):=by
  unfold version digits;rw[Bool.and_assoc]
 rw[hv]
 cases hp:([49,46]:L).isPrefixOf s.data.toList with
 | false=>
  rw[hp] at HP;clear hv hp
  go_enter Tryz.func153,Tryz.ntmps153
  go_wp2_with (go_at_call 124;refine HP.out.mono ?_;rintro e w' ⟨rfl,rfl⟩)
  go_ret;exact⟨aO (ck (by simp)),Below.refl _ _⟩
 | true=>
  have h2:2≤s.size:=by have:=yF hp;rw[bL] at this;exact this
  have lC:¬((s.size:Int)<2):=by omega
  have HD:=hide (show Calls Tryz.prog 183 #[.string (s.extract 2 s.size)] w fun e w'=>e=.returned (.bool (digits (s.data.toList.drop 2)))∧Below w.heap.size w w' from by
   have h:=ac8 (s.extract 2 s.size) w (by rw[ByteArray.size_extract];omega);rw[iY,aP] at h;rw[iY];exact h)
  rw[hp] at HP;clear hv hp;generalize digits (s.data.toList.drop 2)=b at *
  go_enter Tryz.func153,Tryz.ntmps153
  go_wp2_with fail
  refine HP.out.mono ?_;rintro e w1 ⟨rfl,rfl⟩
  go_wp2_with fail
  refine HD.out.mono ?_;rintro e w2 ⟨rfl,hb⟩;go_wp2;go_ret;exact⟨aO (ck (by simp)),hb⟩
end
section
open Go.RowKit Tk

structure aR(X T:Nat)(w w':World):Prop where
 os:w'.os=w.os
 tape:w'.tape=w.tape
 output:w'.output=w.output
 size:w.heap.size≤w'.heap.size
 block:∀k,k<w.heap.size→k≠X→k≠T→w'.heap[k]?=w.heap[k]?
section
variable {X T:Nat} {w w1 w':World}
theorem aR.refl(X T:Nat)(w:World):aR X T w w:=⟨rfl,rfl,rfl,Nat.le_refl _,fun _ _ _ _=>rfl⟩
theorem aR.trans(h:aR X T w w1)(k:aR X T w1 w'):aR X T w w' :=
 ⟨k.os.trans h.os,k.tape.trans h.tape,k.output.trans h.output,Nat.le_trans h.size k.size,fun i hi hb hc=>(k.block i (Nat.lt_of_lt_of_le hi h.size) hb hc).trans (h.block i hi hb hc)⟩
theorem aR.below{B:Nat}(h:aR X T w w')(hb:B≤X)(hc:B≤T)(hs:B≤w.heap.size):Below B w w':=⟨h.os,h.tape,h.output,h.size,fun k hk=>h.block k (by omega) (by omega) (by omega)⟩
theorem ag.Ym(h:ag X w w'):aR X T w w':=⟨h.os,h.tape,h.output,h.size,fun k hk hb _=>h.block k hk hb⟩
theorem aR.go(h:aR X T w w1)(hb:Below w1.heap.size w1 w'):aR X T w w':=h.trans (ag.bX hb).Ym
theorem aR.one(h:aR X T w w1)(hb:ag X w1 w'):aR X T w w':=h.trans hb.Ym
theorem aR.drew(h:aR X T w w1):aR X T w w1.drew:=⟨h.os,h.tape,h.output,h.size,h.block⟩
theorem aR.alloc(h:aR X T w w1)(o:Obj):aR X T w (w1.alloc o):=h.trans ⟨rfl,rfl,rfl,by simp,fun k hk _ _=>Below.heap_alloc _ _ _ hk⟩
theorem aR.setCell(h:aR X T w w1){p:Addr}(hp:p.block=X∨p.block=T∨w.heap.size≤p.block)(u:Value):aR X T w (w1.setCell p u):=by
 refine⟨h.os,h.tape,h.output,by simpa[World.setCell] using h.size,fun k hk hb hc=>?_⟩;rw[Below.heap_setCell _ _ _ _ (by omega)];exact h.block k hk hb hc
theorem Gl.Dw(h:Gl w)(hb:aR X T w w')(hX:6≤X)(hT:6≤T):Gl w':=h.keep fun g i v hg hv=>
 (World.cell?_of_block (a:=⟨g,i,none⟩) (hb.block g (dN hv) (by omega) (by omega))).trans hv
end
def Tb(w:World)(T:Nat)(kind:Int)(name:ByteArray)(ak:Value)(empty:Bool)(text:ByteArray)(at_ end_:Nat):Prop :=
 ae w T 82 #[.int .i8 kind,.string name,ak,.bool empty,.string text,.int .i64 (at_:Int),.int .i64 (end_:Int)]
section
variable {w:World} {T:Nat} {kind:Int} {name:ByteArray} {ak:Value} {empty:Bool} {text:ByteArray} {at_ end_:Nat}
theorem Tb.f(h:Tb w T kind name ak empty text at_ end_)(i:Nat):w.frozen? ⟨T,i,none⟩=false:=ae.frozen h i
theorem Tb.c0(h:Tb w T kind name ak empty text at_ end_):w.cell? ⟨T,0,none⟩=some (.int .i8 kind):=ae.cell h 0
theorem Tb.c1(h:Tb w T kind name ak empty text at_ end_):w.cell? ⟨T,1,none⟩=some (.string name):=ae.cell h 1
theorem Tb.c2(h:Tb w T kind name ak empty text at_ end_):w.cell? ⟨T,2,none⟩=some ak:=ae.cell h 2
theorem Tb.c3(h:Tb w T kind name ak empty text at_ end_):w.cell? ⟨T,3,none⟩=some (.bool empty):=ae.cell h 3
theorem Tb.c4(h:Tb w T kind name ak empty text at_ end_):w.cell? ⟨T,4,none⟩=some (.string text):=ae.cell h 4
theorem Tb.c5(h:Tb w T kind name ak empty text at_ end_):w.cell? ⟨T,5,none⟩=some (.int .i64 (at_:Int)):=ae.cell h 5
theorem Tb.c6(h:Tb w T kind name ak empty text at_ end_):w.cell? ⟨T,6,none⟩=some (.int .i64 (end_:Int)):=ae.cell h 6
theorem Tb.Me(h:Tb w T kind name ak empty text at_ end_)(k:Int):Tb (w.setCell ⟨T,0,none⟩ (.int .i8 k)) T k name ak empty text at_ end_:=by have:=ae.aI h 0 (.int .i8 k);simpa[Tb] using this
theorem Tb.Ms(h:Tb w T kind name ak empty text at_ end_)(k:ByteArray):Tb (w.setCell ⟨T,1,none⟩ (.string k)) T kind k ak empty text at_ end_:=by have:=ae.aI h 1 (.string k);simpa[Tb] using this
theorem Tb.abH(h:Tb w T kind name ak empty text at_ end_)(k:Value):Tb (w.setCell ⟨T,2,none⟩ k) T kind name k empty text at_ end_:=by have:=ae.aI h 2 k;simpa[Tb] using this
theorem Tb.JG(h:Tb w T kind name ak empty text at_ end_)(k:Bool):Tb (w.setCell ⟨T,3,none⟩ (.bool k)) T kind name ak k text at_ end_:=by have:=ae.aI h 3 (.bool k);simpa[Tb] using this
theorem Tb.Yj(h:Tb w T kind name ak empty text at_ end_)(k:ByteArray):Tb (w.setCell ⟨T,4,none⟩ (.string k)) T kind name ak empty k at_ end_:=by have:=ae.aI h 4 (.string k);simpa[Tb] using this
theorem Tb.adv(h:Tb w T kind name ak empty text at_ end_)(k:Nat):Tb (w.setCell ⟨T,6,none⟩ (.int .i64 (k:Int))) T kind name ak empty text at_ k:=by have:=ae.aI h 6 (.int .i64 (k:Int));simpa[Tb] using this
theorem Tb.xg{X:Nat}{w':World}(h:Tb w T kind name ak empty text at_ end_)(hb:ag X w w')(hne:T≠X):Tb w' T kind name ak empty text at_ end_:=hb.blk h hne
theorem Sc.far{X:Nat}{s:ByteArray}{k i:Nat}(h:Sc w X s k)(hne:X≠T)(u:Value):Sc (w.setCell ⟨T,i,none⟩ u) X s k:=ae.far h hne u
theorem Tb.far{X i:Nat}(h:Tb w T kind name ak empty text at_ end_)(hne:T≠X)(u:Value):Tb (w.setCell ⟨X,i,none⟩ u) T kind name ak empty text at_ end_:=ae.far h hne u
end

def kindOf(l:L):Int:=if ([60,47]:L).isPrefixOf l then 1 else if ([60,33]:L).isPrefixOf l||([60,63]:L).isPrefixOf l then 2 else if ([60]:L).isPrefixOf l then 0 else 3
theorem agO(s:ByteArray)(w:World)(h:0<s.size):Calls Tryz.prog 89 #[.string s] w fun e w'=>e=.returned (.int .i64 (kindOf s.data.toList))∧w'=w:=by
 obtain⟨c,hc⟩:∃c,s.data.toList[0]?=some c:=⟨_,List.getElem?_eq_getElem (by rw[bL];exact h)⟩
 have hsc:s[0]=c:=by
  obtain⟨h1,h2⟩:=List.getElem?_eq_some_iff.1 hc;exact h2
 have H1:=hide (show ∀W,Calls Tryz.prog 124 #[.string s,.string ⟨#[60,47]⟩] W fun e w'=>e=.returned (.bool (([60,47]:L).isPrefixOf s.data.toList))∧w'=W from fun W=>Tryz.strings_HasPrefix s ⟨#[60,47]⟩ W);have H2:=hide (show ∀W,Calls Tryz.prog 124 #[.string s,.string ⟨#[60,33]⟩] W fun e w'=>e=.returned (.bool (([60,33]:L).isPrefixOf s.data.toList))∧w'=W from fun W=>Tryz.strings_HasPrefix s ⟨#[60,33]⟩ W);have H3:=hide (show ∀W,Calls Tryz.prog 124 #[.string s,.string ⟨#[60,63]⟩] W fun e w'=>e=.returned (.bool (([60,63]:L).isPrefixOf s.data.toList))∧w'=W from fun W=>Tryz.strings_HasPrefix s ⟨#[60,63]⟩ W)
 have hp:([60]:L).isPrefixOf s.data.toList=decide (c=60):=by
  cases hl:s.data.toList with
  | nil=>rw[hl] at hc;cases hc
  | cons d r=>
   rw[hl] at hc;cases hc;rw[Bool.eq_iff_iff];simp;exact⟨fun h=>h.symm,fun h=>h.symm⟩
 unfold kindOf;rw[hp]
 have an0:((s[0].toNat:Int)==60)=decide (c=60):=by
  rw[hsc];rw[Bool.eq_iff_iff,beq_iff_eq,decide_eq_true_eq]
  constructor
  ·intro h;exact UInt8.toNat.inj (by show c.toNat=60;omega)
  intro h;rw[h];rfl
 generalize ([60,47]:L).isPrefixOf s.data.toList=a at *
 generalize ([60,33]:L).isPrefixOf s.data.toList=b at *
 generalize ([60,63]:L).isPrefixOf s.data.toList=d at *
 generalize decide (c=60)=f at *
 clear hp hc hsc
 cases a with
 | true=>
  go_enter Tryz.func89,Tryz.ntmps89
  go_wp2_with fail
  refine (H1.out _).mono ?_;rintro e w1 ⟨rfl,rfl⟩;go_wp2;go_ret;exact⟨rfl,rfl⟩
 | false=>
  cases b with
  | true=>
   go_enter Tryz.func89,Tryz.ntmps89
   go_wp2_with fail
   refine (H1.out _).mono ?_;rintro e w1 ⟨rfl,rfl⟩
   go_wp2_with fail
   refine (H2.out _).mono ?_;rintro e w2 ⟨rfl,rfl⟩;go_wp2;go_ret;exact⟨rfl,rfl⟩
  | false=>
   cases d with
   | true=>
    go_enter Tryz.func89,Tryz.ntmps89
    go_wp2_with fail
    refine (H1.out _).mono ?_;rintro e w1 ⟨rfl,rfl⟩
    go_wp2_with fail
    refine (H2.out _).mono ?_;rintro e w2 ⟨rfl,rfl⟩
    go_wp2_with fail
    refine (H3.out _).mono ?_;rintro e w3 ⟨rfl,rfl⟩;go_wp2;go_ret;exact⟨rfl,rfl⟩
   | false=>
    cases f with
    | true=>
     go_enter Tryz.func89,Tryz.ntmps89
     go_wp2_with fail
     refine (H1.out _).mono ?_;rintro e w1 ⟨rfl,rfl⟩
     go_wp2_with fail
     refine (H2.out _).mono ?_;rintro e w2 ⟨rfl,rfl⟩
     go_wp2_with fail
     refine (H3.out _).mono ?_;rintro e w3 ⟨rfl,rfl⟩;go_wp2;go_ret;exact⟨rfl,rfl⟩
    | false=>
     go_enter Tryz.func89,Tryz.ntmps89
     go_wp2_with fail
     refine (H1.out _).mono ?_;rintro e w1 ⟨rfl,rfl⟩
     go_wp2_with fail
     refine (H2.out _).mono ?_;rintro e w2 ⟨rfl,rfl⟩
     go_wp2_with fail
     refine (H3.out _).mono ?_;rintro e w3 ⟨rfl,rfl⟩;go_wp2;go_ret;exact⟨rfl,rfl⟩
end
section
open Go.RowKit Tk

def jX(l:List At):List Value:=l.flatMap fun a=>[.string (aa a.name),.string (aa a.value),.int .i64 (a.at_:Int)]
def QU(w:World)(base T:Nat)(t:Tok)(e:Nat):Prop :=
 ∃A c,Tb w T t.kind (aa t.name) (.slice A t.attrs.length c) t.empty (aa t.text) t.at_ e∧w.ownsRow base 147 3 (.slice A t.attrs.length c) t.attrs.length (jX t.attrs)
def Jc(w:World)(T:Nat):Prop:=∃kind name ak empty text a e,Tb w T kind name ak empty text a e
def dU(w:World)(base X T:Nat)(s:ByteArray)(k:Nat)(o:Option Tok)(e:Ending)(w':World):Prop :=
 aR X T w w'∧match o with
  | none=>e=.returned (.bool false)∧(∃k',k'≤s.size∧Sc w' X s k')∧Jc w' T
  | some t=>e=.returned (.bool true)∧t.end_≤s.size∧k<t.end_∧Sc w' X s t.end_∧QU w' base T t 0
theorem dU.no{w:World}{base X T:Nat}{s:ByteArray}{k k':Nat}{o:Option Tok}{e:Ending}{w':World}(ho:o=none)(h1:aR X T w w')(h2:e=.returned (.bool false))(h3:k'≤s.size)(h4:Sc w' X s k')(h5:Jc w' T):dU w base X T s k o e w':=by
 subst ho;exact⟨h1,h2,⟨k',h3,h4⟩,h5⟩
theorem dU.yes{w:World}{base X T:Nat}{s:ByteArray}{k:Nat}{t:Tok}{o:Option Tok}{e:Ending}{w':World}(ho:o=some t)(h1:aR X T w w')(h2:e=.returned (.bool true))(h3:t.end_≤s.size)(h4:k<t.end_)(h5:Sc w' X s t.end_)(h6:QU w' base T t 0):dU w base X T s k o e w':=by
 subst ho;exact⟨h1,h2,h3,h4,h5,h6⟩
def T0(w:World)(T k:Nat):Prop:=Tb w T 0 ⟨#[]⟩ (.slice none 0 0) false ⟨#[]⟩ k 0
theorem NA(l:L):((aa l).toList==([]:L))=l.isEmpty:=Nz (aa l)

theorem adw(w:World)(base X T:Nat)(s:ByteArray)(k:Nat)(hX:Sc w X s k)(hT:T0 w T k)(hne:X≠T)(ha:k+2≤s.size)(hs:s.size≤1000000000) :
  Calls Tryz.prog 86 #[.pointer (some ⟨X,0,none⟩),.pointer (some ⟨T,0,none⟩)] w (dU w base X T s k (Tk.end_ k (s.data.toList.drop k))):=by
 obtain⟨d,hd⟩:∃d,s.data.toList.drop k=d:=⟨_,rfl⟩;have bg:s.data.toList.drop (k+2)=d.drop 2:=by rw[mf,hd]
 have HN:=hide fun W (hW:Sc W X s (k+2))=>V5 W X s (k+2) hW ha hs;rw[bg] at HN;rw[hd];obtain⟨r,hr⟩:∃r,d.drop 2=r:=⟨_,rfl⟩;rw[hr] at HN bg;have EY:r.length=s.size-(k+2):=by rw[←bg,List.length_drop,bL]
 obtain⟨n,hn⟩:∃n,take r=n:=⟨_,rfl⟩;have iG:n≤s.size-(k+2):=by have:=F8 r;omega
 have hex:s.extract (k+2) (k+2+n)=aa (r.take n):=by rw[mg,bg,show k+2+n-(k+2)=n by omega]
 rw[hn,hex] at HN;have xK:s.data.toList.drop (k+2+n)=r.drop n:=by rw[mf,bg]
 have HB:=hide fun W (hW:Sc W X s (k+2+n))=>xj W X s (k+2+n) hW (by omega) hs;obtain⟨m,hm⟩:∃m,aL (r.drop n)=m:=⟨_,rfl⟩;have jG:m≤s.size-(k+2+n):=by have:=BP (r.drop n);rw[List.length_drop] at this;omega
 rw[xK,hm] at HB;have sO:s.data.toList.drop (k+2+n+m)=(r.drop n).drop m:=by rw[mf,xK]
 have HI:=hide fun W (hW:Sc W X s (k+2+n+m))=>rh W X s ⟨#[62]⟩ (k+2+n+m) hW (by omega) hs (by decide);rw[sO] at HI;obtain⟨p,hp⟩:∃p,([62]:L).isPrefixOf ((r.drop n).drop m)=p:=⟨_,rfl⟩;rw[show ((⟨#[62]⟩:ByteArray).data.toList.isPrefixOf ((r.drop n).drop m))=p from hp] at HI;obtain⟨res,dC⟩:∃o,Tk.end_ k d=o:=⟨_,rfl⟩;rw[dC]
 have hR:res=if n=0 then none else if p=true then some ⟨1,r.take n,[],false,[],k,k+2+n+m+1⟩ else none:=by
  rw[←dC];unfold Tk.end_;dsimp only;rw[hr,hn,hm,hp]
 have hpl:p=true→k+2+n+m+1≤s.size:=fun h=>by
  have:=yF (by rw[hp];exact h);rw[←sO,List.length_drop,bL] at this;have e:([62]:L).length=1:=rfl;omega
 have hE:=NA (r.take n)
 have nV:(r.take n).isEmpty=decide (n=0):=by
  rw[Bool.eq_iff_iff,List.isEmpty_iff,decide_eq_true_eq]
  constructor
  ·intro h;have:=congrArg List.length h;rw[List.length_take,List.length_nil] at this;omega
  intro h;rw[h,List.take_zero]
 rw[nV] at hE;have HR:=hide hR;have G5:=hide hpl;have kM:=hide hX;have dE:=hide hT;have q1:=Sc.c1 hX;have f1:=Sc.f1 hX;have f0:=Tb.f hT 0;have c0:=Tb.c0 hT;have pZ:=hide (show k+2+n+m≤s.size by omega);obtain⟨nm,cR⟩:∃nm,aa (r.take n)=nm:=⟨_,rfl⟩;rw[cR] at HN hE;have eM:=hide cR;clear cR dC hR hpl hX hT hd bg hr EY hn iG hex xK hm jG sO hp nV;have hw2:IntKind.i64.wrap ((k:Int)+2)=(k:Int)+2:=IntWalk.i64_in _ (by omega)
 go_enter Tryz.func86,Tryz.ntmps86
 go_wp2_with fail
 have S1:=hide (Sc.move (Sc.far kM.out hne (i:=0) (.int .i8 1)) (k+2));have T1:=hide (Tb.far (i:=1) (Tb.Me dE.out 1) (Ne.symm hne) (.int .i64 ((k+2:Nat):Int)));have B1:=hide (((aR.refl X T w).setCell (p:=⟨T,0,none⟩) (.inr (.inl rfl)) (.int .i8 1)).setCell (p:=⟨X,1,none⟩) (.inl rfl) (.int .i64 ((k+2:Nat):Int)));clear q1 f1 f0 c0;refine (HN.out _ S1.out).mono ?_;rintro e w2 ⟨rfl,s2,b2⟩;have T2:=hide (T1.out.xg b2 (Ne.symm hne));have B2:=hide (B1.out.one b2);have S2:=hide s2;have f0:=Tb.f T2.out 1;have c0:=Tb.c1 T2.out;clear s2 b2 HN S1 T1 B1
 go_wp2_with fail
 have S3:=hide (Sc.far (i:=1) S2.out hne (.string nm));have T3:=hide (Tb.Ms T2.out nm);have B3:=hide (B2.out.setCell (p:=⟨T,1,none⟩) (.inr (.inl rfl)) (.string nm));clear f0 c0 S2 T2 B2;refine (HB.out _ S3.out).mono ?_;rintro e w4 ⟨rfl,s4,b4⟩;have T4:=hide (T3.out.xg b4 (Ne.symm hne));have B4:=hide (B3.out.one b4);have S4:=hide s4;have c1:=Tb.c1 T4.out;clear s4 b4 HB S3 T3 B3
 by_cases h0:n=0
 ·rw[decide_eq_true h0] at hE;have iq:=hide (show res=none by rw[HR.out,if_pos h0]);clear h0 HR HI;go_wp2;go_ret;exact dU.no iq.out B4.out rfl pZ.out S4.out ⟨_,_,_,_,_,_,_,T4.out⟩
 rw[decide_eq_false h0] at hE;have iq:=hide (show res=if p=true then some ⟨1,r.take n,[],false,[],k,k+2+n+m+1⟩ else none by rw[HR.out,if_neg h0]);clear h0 HR
 go_wp2_with fail
 refine (HI.out _ S4.out).mono ?_;rintro e w5 ⟨rfl,s5,b5⟩;have T5:=hide (T4.out.xg b5 (Ne.symm hne));have B5:=hide (B4.out.one b5);have S5:=hide s5;clear s5 b5 HI S4 T4 B4 c1
 cases p with
 | false=>
  go_wp2;go_ret;refine dU.no (by rw[iq.out];rfl) B5.out rfl pZ.out (k':=k+2+n+m) ?_ ⟨_,_,_,_,_,_,_,T5.out⟩
  simpa using S5.out
 | true=>
  go_wp2;go_ret;refine dU.yes (t:=⟨1,r.take n,[],false,[],k,k+2+n+m+1⟩) (by rw[iq.out];rfl) B5.out rfl (G5.out (by simp)) (by dsimp only;omega) ?_ ?_
  ·have h:=S5.out;rw[if_pos (by simp)] at h;exact h
  refine⟨none,0,?_,World.ownsRow_nil _ _ _ _⟩;have h:=T5.out;rw[←eM.out] at h;exact h
end
end Go.Proofs.YtnbmfljhbpfilaaGreatDoor
