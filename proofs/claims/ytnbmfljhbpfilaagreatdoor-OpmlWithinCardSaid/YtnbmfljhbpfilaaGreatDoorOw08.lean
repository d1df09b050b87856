/- Tokens: words for one: which reading a piece calls, and whether it is of Chars alone. And more. -/
import Derived.Test.YtnbmfljhbpfilaaGreatDoorOw02
import Derived.Test.YtnbmfljhbpfilaaGreatDoorOw03
import Derived.Test.YtnbmfljhbpfilaaGreatDoorOw04
import Derived.Test.YtnbmfljhbpfilaaGreatDoorOw07
import Derived.Laws.RangeString
import Derived.Laws.RangeAny
import Derived.Deep.Onto
import Derived.Laws.EntriesVeiled
import Derived.Deep.QuietTactic
import Derived.BigQuiet
import Derived.Deep.LoopGhost
import Derived.WalkSpells
import Derived.WalkLawsBesides
set_option linter.unusedSimpArgs false
set_option maxRecDepth 20000
set_option maxHeartbeats 8000000
set_option linter.unusedVariables false
namespace Go.Proofs.YtnbmfljhbpfilaaGreatDoor
section
open Go.RowKit Tk

theorem Dt(l:L):decide (0≤bad l) = !fine l:=by
 unfold bad fine stop
 cases h:(Utf.pieces l).find? (fun p=>!bI p.2) with
 | none=>
  have:(Utf.pieces l).all (fun p=>bI p.2)=true:=List.all_eq_true.2 fun p hp=>by
   have:=List.find?_eq_none.1 h p hp
   simpa using this
  simp[this]
 | some p=>
  have h1:=List.find?_some h;have h2:=List.mem_of_find?_eq_some h
  have:(Utf.pieces l).all (fun p=>bI p.2)=false:=by
   rw[Bool.eq_false_iff];intro ha;have:=List.all_eq_true.1 ha p h2;rw[this] at h1;cases h1
  simp[this]
def Ct(t:Tok)(v:Value)(e:Nat):List Value:=[.int .i8 t.kind,.string (aa t.name),v,.bool t.empty,.string (aa t.text),.int .i64 (t.at_:Int),.int .i64 (e:Int)]
def Oq:List Value:=[.int .i8 0,.string ⟨#[]⟩,.slice none 0 0,.bool false,.string ⟨#[]⟩,.int .i64 0,.int .i64 0]
def nJ(w:World)(o:Option Tok)(e:Ending)(w':World):Prop :=
 Below w.heap.size w w'∧match o with
  | none=>e=.returned (.tuple #[.agg Oq.toArray,.bool false])
  | some t=>∃A c,e=.returned (.tuple #[.agg (Ct t (.slice A t.attrs.length c) t.end_).toArray,.bool true])∧w'.ownsRow w.heap.size 147 3 (.slice A t.attrs.length c) t.attrs.length (jX t.attrs)
theorem nJ.no{w:World}{o:Option Tok}{e:Ending}{w':World}(ho:o=none)(hb:Below w.heap.size w w')(he:e=.returned (.tuple #[.agg Oq.toArray,.bool false])):nJ w o e w':=by subst ho;exact⟨hb,he⟩
theorem nJ.V9{R:Nat}{w:World}{o:Option Tok}{e:Ending}{w':World}(hR:w.heap.size=R)(ho:o=none)(hb:Below R w w')(he:e=.returned (.tuple #[.agg Oq.toArray,.bool false])):nJ w o e w':=by subst hR;exact nJ.no ho hb he
theorem nJ.yes{w:World}{o:Option Tok}{t:Tok}{e:Ending}{w':World}{A:Option Addr}{c:Nat}(ho:o=some t)(hb:Below w.heap.size w w')(he:e=.returned (.tuple #[.agg (Ct t (.slice A t.attrs.length c) t.end_).toArray,.bool true]))
  (hr:w'.ownsRow w.heap.size 147 3 (.slice A t.attrs.length c) t.attrs.length (jX t.attrs)):nJ w o e w':=by subst ho;exact⟨hb,A,c,he,hr⟩
def qB(l:L):Nat:=if ([60,47]:L).isPrefixOf l then 86 else if ([60,33]:L).isPrefixOf l||([60,63]:L).isPrefixOf l then 87 else if ([60]:L).isPrefixOf l then 85 else 88
theorem agP(l:L):(kindOf l=0∧qB l=85)∨(kindOf l=1∧qB l=86)∨(kindOf l=2∧qB l=87)∨(kindOf l=3∧qB l=88):=by
 unfold kindOf qB
 cases ([60,47]:L).isPrefixOf l<;>cases (([60,33]:L).isPrefixOf l||([60,63]:L).isPrefixOf l)<;>cases ([60]:L).isPrefixOf l<;>simp
theorem aiN(w:World)(X T:Nat)(s:ByteArray)(k:Nat)(hX:Sc w X s k)(hT:T0 w T k)(hne:X≠T)(bN:6≤X)(gC:6≤T)(hg:Gl w)(hk:k<s.size)(hs:s.size≤1000000000)(hpl:Pl k (s.data.toList.drop k)) :
  Calls Tryz.prog (qB (s.data.toList.drop k)) #[.pointer (some ⟨X,0,none⟩),.pointer (some ⟨T,0,none⟩)] w (dU w w.heap.size X T s k (Tk.piece k (s.data.toList.drop k))):=by
 unfold qB Tk.piece;split
 ·rename_i hp
  have:=yF hp;rw[List.length_drop,bL] at this;exact adw w _ X T s k hX hT hne (by have e:([60,47]:L).length=2:=rfl;omega) hs
 split
 ·rename_i hh
  rcases hpl with hpl|hpl
  ·unfold FR at hpl;rw[hh] at hpl;cases hpl
  exact akJ w _ X T s k hX hT hne bN gC hg (by omega) hs hpl
 split
 ·exact aln w _ X T s k hX hT hne bN gC hg rfl hk hs
 rename_i hp
 exact al0 w _ X T s k hX hT hne bN gC hg hk hs (Bool.eq_false_iff.2 hp)
def FF(w:World)(s:ByteArray)(k:Nat):World :=
 (((w.alloc (.cells #[.int .i8 0,.string ⟨#[]⟩,.slice none 0 0,.bool false,.string ⟨#[]⟩,.int .i64 0,.int .i64 0] 82)).alloc
  (.cells #[.func (.func 85) #[] #[],.func (.func 86) #[] #[],.func (.func 87) #[] #[],.func (.func 88) #[] #[]] 140)).alloc
  (.cells #[.string s,.int .i64 (k:Int)] 142)).alloc (.cells #[.int .i8 0,.string ⟨#[]⟩,.slice none 0 0,.bool false,.string ⟨#[]⟩,.int .i64 (k:Int),.int .i64 0] 82)
structure abj(w C:World)(s:ByteArray)(k R Y X T:Nat):Prop where
 res:ae C R 82 #[.int .i8 0,.string ⟨#[]⟩,.slice none 0 0,.bool false,.string ⟨#[]⟩,.int .i64 0,.int .i64 0]
 fns:ae C Y 140 #[.func (.func 85) #[] #[],.func (.func 86) #[] #[],.func (.func 87) #[] #[],.func (.func 88) #[] #[]]
 sc:Sc C X s k
 tok:T0 C T k
 below:Below w.heap.size w C
 size:T<C.heap.size
 base:w.heap.size≤C.heap.size
 rX:R≠X
 rT:R≠T
 xT:X≠T
 xs:w.heap.size≤X
 ts:w.heap.size≤T
 rs:w.heap.size≤R
theorem ahS(w:World)(s:ByteArray)(k:Nat):abj w (FF w s k) s k w.heap.size (w.heap.size+1) (w.heap.size+1+1) (w.heap.size+1+1+1):=by
 have b0:=ae.new w 82 #[.int .i8 0,.string ⟨#[]⟩,.slice none 0 0,.bool false,.string ⟨#[]⟩,.int .i64 0,.int .i64 0];have b1:=ae.new (w.alloc (.cells #[.int .i8 0,.string ⟨#[]⟩,.slice none 0 0,.bool false,.string ⟨#[]⟩,.int .i64 0,.int .i64 0] 82)) 140 #[.func (.func 85) #[] #[],.func (.func 86) #[] #[],.func (.func 87) #[] #[],.func (.func 88) #[] #[]];rw[World.size_alloc] at b1;have b2:=ae.new ((w.alloc (.cells #[.int .i8 0,.string ⟨#[]⟩,.slice none 0 0,.bool false,.string ⟨#[]⟩,.int .i64 0,.int .i64 0] 82)).alloc (.cells #[.func (.func 85) #[] #[],.func (.func 86) #[] #[],.func (.func 87) #[] #[],.func (.func 88) #[] #[]] 140)) 142 #[.string s,.int .i64 (k:Int)];rw[World.size_alloc,World.size_alloc] at b2
 have b3:=ae.new (((w.alloc (.cells #[.int .i8 0,.string ⟨#[]⟩,.slice none 0 0,.bool false,.string ⟨#[]⟩,.int .i64 0,.int .i64 0] 82)).alloc (.cells #[.func (.func 85) #[] #[],.func (.func 86) #[] #[],.func (.func 87) #[] #[],.func (.func 88) #[] #[]] 140)).alloc (.cells #[.string s,.int .i64 (k:Int)] 142)) 82 #[.int .i8 0,.string ⟨#[]⟩,.slice none 0 0,.bool false,.string ⟨#[]⟩,.int .i64 (k:Int),.int .i64 0];rw[World.size_alloc,World.size_alloc,World.size_alloc] at b3;refine⟨((b0.alloc _).alloc _).alloc _,(b1.alloc _).alloc _,b2.alloc _,b3,?_,b3.lt,?_,by omega,by omega,by omega,by omega,by omega,by omega⟩
 ·exact (((((Below.refl _ w).alloc (Nat.le_refl _) _).alloc (by simp) _).alloc (by simp;omega) _).alloc (by simp;omega) _)
 have:=b3.lt;unfold FF;omega
def FV(w:World)(X:Nat)(v0 v1 v2 v3 v4 v5 v6:Value):World:=(((((((w.setCell ⟨X,0,none⟩ v0).setCell ⟨X,1,none⟩ v1).setCell ⟨X,2,none⟩ v2).setCell ⟨X,3,none⟩ v3).setCell ⟨X,4,none⟩ v4).setCell ⟨X,5,none⟩ v5).setCell ⟨X,6,none⟩ v6)
theorem Jo{B X:Nat}{w w1:World}(h:Below B w w1)(hX:B≤X)(v0 v1 v2 v3 v4 v5 v6:Value):Below B w (FV w1 X v0 v1 v2 v3 v4 v5 v6) :=
 ((((((h.setCell (p:=⟨X,0,none⟩) hX v0).setCell (p:=⟨X,1,none⟩) hX v1).setCell (p:=⟨X,2,none⟩) hX v2).setCell (p:=⟨X,3,none⟩) hX v3).setCell (p:=⟨X,4,none⟩) hX v4).setCell (p:=⟨X,5,none⟩) hX v5).setCell (p:=⟨X,6,none⟩) hX v6
theorem MI{w:World}{X t:Nat}{u0 u1 u2 u3 u4 u5 u6:Value}(h:ae w X t #[u0,u1,u2,u3,u4,u5,u6])(v0 v1 v2 v3 v4 v5 v6:Value):ae (FV w X v0 v1 v2 v3 v4 v5 v6) X t #[v0,v1,v2,v3,v4,v5,v6]:=by
 have:=((((((h.aI 0 v0).aI 1 v1).aI 2 v2).aI 3 v3).aI 4 v4).aI 5 v5).aI 6 v6
 simpa[Go.Proofs.YtnbmfljhbpfilaaGreatDoor.FV] using this
theorem ai2{w:World}{base e size n X:Nat}{v:Value}{xs:List Value}(h:w.ownsRow base e size v n xs)(hX:v.ownBlock≠some X)(v0 v1 v2 v3 v4 v5 v6:Value):(FV w X v0 v1 v2 v3 v4 v5 v6).ownsRow base e size v n xs :=
 ownsRow_setCell_other (ownsRow_setCell_other (ownsRow_setCell_other (ownsRow_setCell_other (ownsRow_setCell_other (ownsRow_setCell_other (ownsRow_setCell_other h (a:=⟨X,0,none⟩) hX _) (a:=⟨X,1,none⟩) hX _) (a:=⟨X,2,none⟩) hX _) (a:=⟨X,3,none⟩) hX _) (a:=⟨X,4,none⟩) hX _) (a:=⟨X,5,none⟩) hX _) (a:=⟨X,6,none⟩) hX _
theorem MA{Q:Ending→World→Prop}{a:Act}{W:World}{R:Nat}{v0 v1 v2 v3 v4 v5 v6:Value}{b:Bool}(ha:a.tmps.getD 4 undef=.pointer (some ⟨R,0,none⟩))(h5:a.tmps.getD 5 undef=.bool b)(hd:a.defers=[])(hK:ae W R 82 #[v0,v1,v2,v3,v4,v5,v6])
  (hQ:Q (.returned (.tuple #[.agg #[v0,v1,v2,v3,v4,v5,v6],.bool b])) W):bodyPost Tryz.prog Tryz.f53 Q .ret a W:=by
 have p0:W.cell? ⟨R,0,none⟩=some v0:=hK.cell 0;have p1:W.cell? ⟨R,1,none⟩=some v1:=hK.cell 1;have p2:W.cell? ⟨R,2,none⟩=some v2:=hK.cell 2;have p3:W.cell? ⟨R,3,none⟩=some v3:=hK.cell 3;have p4:W.cell? ⟨R,4,none⟩=some v4:=hK.cell 4;have p5:W.cell? ⟨R,5,none⟩=some v5:=hK.cell 5;have p6:W.cell? ⟨R,6,none⟩=some v6:=hK.cell 6;refine bodyPost_ret (v:=.tuple #[.agg #[v0,v1,v2,v3,v4,v5,v6],.bool b]) ?_ hd hQ;obtain⟨tm,df⟩:=a;dsimp only at ha h5 ⊢;have ha':tm[4]?.getD undef=.pointer (some ⟨R,0,none⟩):=by simpa using ha
 have hb':tm[5]?.getD undef=.bool b:=by simpa using h5
 simp[results,Tryz.results53,go_sem,p0,p1,p2,p3,p4,p5,p6,ha',hb']
theorem MB{w w':World}{base e size n:Nat}{v:Value}{xs:List Value}(h:w.ownsRow base e size v n xs)(hb:Below w.heap.size w w'):w'.ownsRow base e size v n xs :=
 h.kept (row:=some w.heap.size) ⟨hb.os,hb.tape,hb.output,hb.size,fun i hi _=>hb.block i hi⟩ (.inr fun e=>by have:=(h.lt _ e).2;omega)
theorem aR.blk{X T g t:Nat}{cs:Array Value}{w w':World}(h:aR X T w w')(hg:ae w g t cs)(hX:g≠X)(hT:g≠T):ae w' g t cs:=(h.block g hg.lt hX hT).trans hg
end
section
open Go.RowKit Tk

theorem ahT(w:World)(s:ByteArray)(k:Nat)(hg:Gl w)(ia:6≤w.heap.size)(hk:k<s.size)(hs:s.size≤1000000000)(hpl:Pl k (s.data.toList.drop k)) :
  Calls Tryz.prog 53 #[.string s,.int .i64 (k:Int)] w (nJ w (Tk.one k (s.data.toList.drop k))):=by
 obtain⟨l,hl⟩:∃l,s.data.toList.drop k=l:=⟨_,rfl⟩;rw[hl] at hpl;have EH:=agP l;have CI:=hide (fun W=>agO (s.extract k s.size) W (by rw[iY,aC,List.length_drop,bL];omega));rw[iY,hl,aP] at CI;have G4:=hide (fun W X T (hX:Sc W X s k) (hT:T0 W T k) (hne:X≠T) (bN:6≤X) (gC:6≤T) (hg:Gl W)=>aiN W X T s k hX hT hne bN gC hg hk hs (by rw[hl];exact hpl));rw[hl] at G4;have PE:Hid (∀o W X T (hX:Sc W X s k) (hT:T0 W T k) (hne:X≠T) (bN:6≤X) (gC:6≤T) (hg:Gl W),o=Tk.piece k l→Calls Tryz.prog (qB l) #[.pointer (some ⟨X,0,none⟩),.pointer (some ⟨T,0,none⟩)] W (dU W W.heap.size X T s k o)):=hide fun o W X T hX hT hne bN gC hg h=>by subst h;exact G4.out W X T hX hT hne bN gC hg
 have HL:=hide hl;rw[hl];have hes:s.extract k s.size=aa l:=by rw[iY,hl]
 obtain⟨o,ho⟩:∃o,Tk.piece k l=o:=⟨_,rfl⟩;obtain⟨res,dC⟩:∃r,Tk.one k l=r:=⟨_,rfl⟩;have HR:=hide (show res=o.bind fun t=>if fine (l.take (t.end_-k)) then some t else none by rw[←dC,←ho];rfl);rw[dC];have Ho:=hide ho;have HG:=hide hg;clear G4 hl ho dC hg hpl;generalize qB l=fn at *
 generalize kindOf l=kd at *
 obtain⟨L0,Tl⟩:∃L0,aa l=L0:=⟨_,rfl⟩;rw[Tl] at CI hes;clear Tl;have HW:=hide (ahS w s k);obtain⟨C,hC⟩:∃C,FF w s k=C:=⟨_,rfl⟩;rw[hC] at HW
 rcases EH with ⟨rfl,rfl⟩|⟨rfl,rfl⟩|⟨rfl,rfl⟩|⟨rfl,rfl⟩
 all_goals
  go_enter Tryz.func53,Tryz.ntmps53
  go_wp2_with fail
  show Calls Tryz.prog 89 _ (FF w s k) _;rw[hC];clear hC;refine (CI.out _).mono ?_;rintro e w1 ⟨rfl,rfl⟩;generalize w.heap.size+1+1+1=T at *
  generalize w.heap.size+1+1=X at *
  generalize w.heap.size+1=Y at *
  have c0:=ae.cell HW.out.fns 0;have c1:=ae.cell HW.out.fns 1;have c2:=ae.cell HW.out.fns 2;have c3:=ae.cell HW.out.fns 3;have PH:=hide HW.out.rX;have zo:=hide HW.out.rT
  go_wp2_with fail
  refine (PE.out o w1 X T HW.out.sc HW.out.tok HW.out.xT (by have:=HW.out.xs;omega) (by have:=HW.out.ts;omega) (HG.out.below HW.out.below) Ho.out.symm).mono ?_;rintro e w2 h2;clear c0 c1 c2 c3 PE CI
  cases o with
  | none=>
   obtain⟨b2,rfl,⟨k',Ld,s2⟩,kd,nm,ak,em,tx,at0,en,t2⟩:=h2;have fQ:=hide (show res=none by rw[HR.out];rfl);have d1:=Sc.c1 s2;have c6:=Tb.c6 t2;have f6:=Tb.f t2 6;have ah:=hide (show Below w.heap.size w w2 from HW.out.below.trans (b2.below HW.out.xs HW.out.ts HW.out.base));have cH:=hide (b2.blk HW.out.res PH.out zo.out);have Ig:=hide HW.out.ts;clear b2 Ld s2 t2 HR HW;generalize iq:w.heap.size=R at *
   have p0:=ae.cell cH.out 0;have p1:=ae.cell cH.out 1;have p2:=ae.cell cH.out 2;have p3:=ae.cell cH.out 3;have p4:=ae.cell cH.out 4;have p5:=ae.cell cH.out 5;have p6:=ae.cell cH.out 6;have r:=fun i=>ae.frozen cH.out i;have hRT:=zo.out;have hTR:=zo.out.symm;go_wp2;have yT:=hide (Jo (ah.out.setCell (p:=⟨T,6,none⟩) Ig.out (.int .i64 (k':Int))) (Nat.le_refl R) (.int .i8 0) (.string ⟨#[]⟩) (.slice none 0 0) (.bool false) (.string ⟨#[]⟩) (.int .i64 0) (.int .i64 0));refine MA rfl rfl rfl (MI (ae.far cH.out (p:=⟨T,6,none⟩) hRT (.int .i64 (k':Int))) _ _ _ _ _ _ _) ?_;exact nJ.V9 iq fQ.out yT.out rfl
  | some t=>
   obtain⟨b2,rfl,lJ,Lf,s2,A,c,t2,o2⟩:=h2;have fP:=hide (show res=if fine (l.take (t.end_-k)) then some t else none by rw[HR.out];rfl);have d1:=Sc.c1 s2;have c6:=Tb.c6 t2;have f6:=Tb.f t2 6;have ah:=hide (show Below w.heap.size w w2 from HW.out.below.trans (b2.below HW.out.xs HW.out.ts HW.out.base));have cH:=hide (b2.blk HW.out.res PH.out zo.out);have kP:=hide t2;have aJ:=hide o2;have Z8:=hide (show (Value.slice A t.attrs.length c).ownBlock≠some w.heap.size from fun e=>by have:=(o2.lt _ e).1;have:=HW.out.size;have:=HW.out.ts;omega);have Z9:=hide (show (Value.slice A t.attrs.length c).ownBlock≠some T from fun e=>by have:=(o2.lt _ e).1;have:=HW.out.size;omega);have bZ:=hide (o2.mono (base':=w.heap.size) HW.out.base);have Ig:=hide HW.out.ts;clear b2 s2 t2 o2 HR HW aJ;generalize iq:w.heap.size=R at *
   have hex:s.extract k t.end_=aa (l.take (t.end_-k)):=by rw[mg,HL.out]
   obtain⟨tx,jo⟩:∃tx,l.take (t.end_-k)=tx:=⟨_,rfl⟩;rw[jo] at hex fP;have GF:=hide (fun W=>Jl (aa tx) W (by rw[aC,←jo,List.length_take];omega));rw[aP] at GF;have lr:=Dt tx;have IJ:=hide lJ;clear jo
   go_wp2_with fail
   have cj:=hide (Tb.adv kP.out t.end_);have cQ:=hide (ae.far cH.out (p:=⟨T,6,none⟩) zo.out (.int .i64 (t.end_:Int)));have rS:=hide (ownsRow_setCell_other bZ.out (a:=⟨T,6,none⟩) Z9.out (.int .i64 (t.end_:Int)));have aw:=hide (ah.out.setCell (p:=⟨T,6,none⟩) Ig.out (.int .i64 (t.end_:Int)));clear kP cH bZ ah d1 c6 f6;generalize w2.setCell ⟨T,6,none⟩ (.int .i64 (t.end_:Int))=W3 at *
   refine (GF.out _).mono ?_;rintro e w4 ⟨rfl,b4⟩;have ir:=hide (ae.go cj.out b4);have oT:=hide (ae.go cQ.out b4);have Z2:=hide (MB rS.out b4);have cG:=hide (aw.out.trans (b4.mono (by have:=aw.out.size;omega)));clear b4 cj cQ rS aw GF;have p0:=ae.cell oT.out 0;have p1:=ae.cell oT.out 1;have p2:=ae.cell oT.out 2;have p3:=ae.cell oT.out 3;have p4:=ae.cell oT.out 4;have p5:=ae.cell oT.out 5;have p6:=ae.cell oT.out 6;have r:=fun i=>ae.frozen oT.out i;have q0:=Tb.c0 ir.out;have q1:=Tb.c1 ir.out;have q2:=Tb.c2 ir.out;have q3:=Tb.c3 ir.out;have q4:=Tb.c4 ir.out;have q5:=Tb.c5 ir.out;have q6:=Tb.c6 ir.out;generalize bad tx=z at *
   cases hf:fine tx with
   | false=>
    rw[hf] at lr;have fQ:=hide (show res=none by rw[fP.out,hf];rfl);clear hf fP;go_wp2;refine MA rfl rfl rfl (MI oT.out _ _ _ _ _ _ _) ?_;exact nJ.V9 iq fQ.out (Jo cG.out (Nat.le_refl R) _ _ _ _ _ _ _) rfl
   | true=>
    rw[hf] at lr;have fQ:=hide (show res=some t by rw[fP.out,hf];rfl);clear hf fP;go_wp2;refine MA rfl rfl rfl (MI oT.out _ _ _ _ _ _ _) ?_;subst iq;exact nJ.yes fQ.out (Jo cG.out (Nat.le_refl _) _ _ _ _ _ _ _) rfl (ai2 Z2.out Z8.out _ _ _ _ _ _ _)
end
section
open Go.RowKit Tk

def oM(B:Nat)(A:Option Addr):Prop:=∀a,A=some a→B≤a.block
theorem oM.more{B B':Nat}{A:Option Addr}(h:oM B A)(hB:B'≤B):oM B' A:=fun a ha=>Nat.le_trans hB (h a ha)
theorem zQ{w:World}{B e size n c:Nat}{A:Option Addr}{xs:List Value}(h:w.ownsRow B e size (.slice A n c) n xs):oM B A:=by
 intro a ha;subst ha
 rcases h.2 with ⟨h1,_⟩|⟨g,cap,cur,hv,hb,_⟩
 ·cases h1
 cases hv;exact hb
def Typed(w:World)(A:Option Addr)(t:TypeId):Prop:=∀a,A=some a→bO w a.block t
theorem Cu{w:World}{B e size n c:Nat}{A:Option Addr}{xs:List Value}(h:w.ownsRow B e size (.slice A n c) n xs):Typed w A e:=by
 intro a ha;subst ha
 rcases h.2 with ⟨h1,_⟩|⟨g,cap,cur,hv,hb,hh,_⟩
 ·cases h1
 cases hv;exact⟨_,_,hh⟩
theorem yD{w:World}{B e size n c:Nat}{A:Option Addr}{xs:List Value}(h:w.ownsRow B e size (.slice A n c) n xs):n≤c:=by
 rcases h.2 with ⟨h1,_⟩|⟨g,cap,cur,hv,hb,hh,afW⟩
 ·cases h1;omega
 cases hv;exact afW.1
theorem gJ{w:World}{k t t':Nat}(h:bO w k t)(h':bO w k t')(hne:t≠t'):False:=by
 obtain⟨cs,fr,h1⟩:=h;obtain⟨cs',fr',h2⟩:=h';rw[h1] at h2;injection h2 with h2
 injection h2 with _ h3
 exact hne h3
structure Tv where
 t:Tok
 A:Option Addr
 c:Nat
def Tv.row(x:Tv):List Value:=Ct x.t (.slice x.A x.t.attrs.length x.c) x.t.end_
def rI(xs:List Tv):List Value:=xs.flatMap Tv.row
theorem aml(xs:List Tv)(x:Tv):rI (xs++[x])=rI xs++x.row:=by simp[rI]
theorem amm(x:Tv):∀u∈x.row,u.oneCell'=true:=by
 intro u hu;simp only[Tv.row,Ct,List.mem_cons,List.not_mem_nil,or_false] at hu
 rcases hu with rfl|rfl|rfl|rfl|rfl|rfl|rfl<;>rfl
theorem agw:(Tryz.prog.info? 82).map (fun i=>(i.zero,i.size,i.bytes))=some (some (.agg #[.int .i8 0,.string ⟨#[]⟩,.slice none 0 0,.bool false,.string ⟨#[]⟩,.int .i64 0,.int .i64 0]),7,88):=by kernel_rfl
structure Tv.In(x:Tv)(B:Nat)(W:World):Prop where
 a:Reads W W.heap.size 3 x.A x.t.attrs.length (jX x.t.attrs)
 va:oM B x.A
 ta:Typed W x.A 147
theorem Reads.same{w w':World}{B B' size n:Nat}{A:Option Addr}{xs:List Value}(h:Reads w B size A n xs)(hk:∀a,A=some a→w'.heap[a.block]?=w.heap[a.block]?)(hB:B≤B'):Reads w' B' size A n xs :=
 ⟨h.1,fun hn=>by
  obtain⟨b,off,e,hb,hc⟩:=h.2 hn;exact⟨b,off,e,by omega,fun j u hu=>(World.cell?_of_block (a:=⟨b,off+j,none⟩) (hk ⟨b,off,none⟩ e)).trans (hc j u hu)⟩⟩
theorem Typed.same{w w':World}{A:Option Addr}{t:TypeId}(h:Typed w A t)(hk:∀a,A=some a→w'.heap[a.block]?=w.heap[a.block]?):Typed w' A t:=fun a ha=>by
 obtain⟨cs,fr,hh⟩:=h a ha;exact⟨cs,fr,(hk a ha).trans hh⟩
theorem Tv.In.turn{x:Tv}{B:Nat}{W W':World}(h:x.In B W)(hk:∀k,B≤k→k<W.heap.size→¬bO W k 82→W'.heap[k]?=W.heap[k]?)(hs:W.heap.size≤W'.heap.size):x.In B W':=by
 have sa:∀a,x.A=some a→W'.heap[a.block]?=W.heap[a.block]?:=fun a ha=>hk _ (h.va a ha) (h.ta a ha).lt fun h2=>gJ (h.ta a ha) h2 (by decide);exact⟨h.a.same sa hs,h.va,h.ta.same sa⟩
theorem Tv.In.below{x:Tv}{B:Nat}{W W':World}(h:x.In B W)(hb:Below W.heap.size W W'):x.In B W':=h.turn (fun k _ h2 _=>hb.block k h2) hb.size
theorem Tv.In.more{x:Tv}{B B':Nat}{W:World}(h:x.In B W)(hB:B'≤B):x.In B' W:=⟨h.a,h.va.more hB,h.ta⟩
theorem Tv.In.eH{w:World}{base:Nat}{t:Tok}{A:Option Addr}{c:Nat}(h:w.ownsRow base 147 3 (.slice A t.attrs.length c) t.attrs.length (jX t.attrs)):(Tv.mk t A c).In base w:=⟨Reads.eH h,zQ h,Cu h⟩
theorem Tv.In.grown{x:Tv}{B base n c:Nat}{A:Option Addr}{W w8:World}{cs:List Value}{o:Obj}(h:x.In B W)(hr:W.ownsRow base 82 7 (.slice A n c) n cs)(hg:(W.alloc o).drew.grownBy w8 (Value.slice A n c).ownBlock):x.In B w8:=by
 refine (h.below (az W o)).turn (fun k _ hk hT=>?_) hg.size;refine (hg.block k hk fun e=>?_);obtain⟨cs,fr,hh⟩:=(aG hr k e.symm).2;have hlt:=(aG hr k e.symm).2.lt;exact hT ⟨cs,fr,(Below.heap_alloc _ _ _ hlt).trans hh⟩
def abv(w:World)(s:L)(e:Ending)(w':World):Prop :=
 ∃(xs:List Tv) (A:Option Addr) (c n:Nat) (ok:Bool),yP s (xs.map (·.t)) n ok∧xs.length≤s.length∧xs.length≤c∧e=.returned (.tuple #[.slice A xs.length c,.int .i64 (n:Int),.bool ok])∧
  Below w.heap.size w w'∧Reads w' w'.heap.size 7 A xs.length (rI xs)∧oM w.heap.size A∧Typed w' A 82∧∀x∈xs,x.In w.heap.size w'
end
section
open Go.RowKit Tk

structure Ga where
 name:ByteArray
 value:ByteArray
 at_:Int
structure Gt where
 kind:Int
 name:ByteArray
 ak:List Ga
 A:Option Addr
 c:Nat
 empty:Bool
 text:ByteArray
 at_:Int
 end_:Int
def JX(x:Ga):List Value:=[.string x.name,.string x.value,.int .i64 x.at_]
def z8(x:Gt):List Value:=[.int .i8 x.kind,.string x.name,.slice x.A x.ak.length x.c,.bool x.empty,.string x.text,.int .i64 x.at_,.int .i64 x.end_]
def ld(l:List Ga):List Value:=l.flatMap JX
def xA(l:List Gt):List Value:=l.flatMap z8
theorem aek:∀(l:List Ga) (k:Nat) (hk:k<l.length) (j:Nat),j<3→(ld l)[k*3+j]?=(JX l[k])[j]?:=by
 intro l
 induction l with
 | nil=>intro k hk;simp at hk
 | cons x l ih=>
  intro k hk j hj;have hl:(JX x).length=3:=rfl;unfold ld;rw[List.flatMap_cons]
  cases k with
  | zero=>rw[List.getElem?_append_left (by omega)];simp
  | succ k=>
   rw[List.getElem?_append_right (by omega),hl,show (k+1)*3+j-3=k*3+j from by omega];exact ih k (by simpa using hk) j hj
theorem aeu:∀(l:List Gt) (k:Nat) (hk:k<l.length) (j:Nat),j<7→(xA l)[k*7+j]?=(z8 l[k])[j]?:=by
 intro l
 induction l with
 | nil=>intro k hk;simp at hk
 | cons x l ih=>
  intro k hk j hj;have hl:(z8 x).length=7:=rfl;unfold xA;rw[List.flatMap_cons]
  cases k with
  | zero=>rw[List.getElem?_append_left (by omega)];simp
  | succ k=>
   rw[List.getElem?_append_right (by omega),hl,show (k+1)*7+j-7=k*7+j from by omega];exact ih k (by simpa using hk) j hj
structure Zo(w:World)(b o:Nat)(x:Ga):Prop where
 c0:w.cell? ⟨b,o,none⟩=some (.string x.name)
 c1:w.cell? ⟨b,o+1,none⟩=some (.string x.value)
 c2:w.cell? ⟨b,o+2,none⟩=some (.int .i64 x.at_)
structure OG(w:World)(b o:Nat)(x:Gt):Prop where
 c0:w.cell? ⟨b,o,none⟩=some (.int .i8 x.kind)
 c1:w.cell? ⟨b,o+1,none⟩=some (.string x.name)
 c2:w.cell? ⟨b,o+2,none⟩=some (.slice x.A x.ak.length x.c)
 c3:w.cell? ⟨b,o+3,none⟩=some (.bool x.empty)
 c4:w.cell? ⟨b,o+4,none⟩=some (.string x.text)
 c5:w.cell? ⟨b,o+5,none⟩=some (.int .i64 x.at_)
 c6:w.cell? ⟨b,o+6,none⟩=some (.int .i64 x.end_)
section
variable {w:World} {B:Nat} {A:Option Addr}
theorem Reads.ga{l:List Ga}(h:Reads w B 3 A l.length (ld l)){k:Nat}(hk:k<l.length):∃b off,A=some ⟨b,off,none⟩∧b<B∧Zo w b (off+k*3) l[k]:=by
 obtain⟨b,off,hA,hb,hc⟩:=h.2 (by omega);have hx:=aek l k hk;refine⟨b,off,hA,hb,?_⟩
 constructor
 ·have:=hc (k*3+0) _ (hx 0 (by omega));simpa using this
 ·have:=hc (k*3+1) _ (hx 1 (by omega));rwa[←Nat.add_assoc] at this
 have:=hc (k*3+2) _ (hx 2 (by omega));rwa[←Nat.add_assoc] at this
theorem Reads.gt{l:List Gt}(h:Reads w B 7 A l.length (xA l)){k:Nat}(hk:k<l.length):∃b off,A=some ⟨b,off,none⟩∧b<B∧OG w b (off+k*7) l[k]:=by
 obtain⟨b,off,hA,hb,hc⟩:=h.2 (by omega);have hx:=aeu l k hk;refine⟨b,off,hA,hb,?_⟩
 constructor
 ·have:=hc (k*7+0) _ (hx 0 (by omega));simpa using this
 ·have:=hc (k*7+1) _ (hx 1 (by omega));rwa[←Nat.add_assoc] at this
 ·have:=hc (k*7+2) _ (hx 2 (by omega));rwa[←Nat.add_assoc] at this
 ·have:=hc (k*7+3) _ (hx 3 (by omega));rwa[←Nat.add_assoc] at this
 ·have:=hc (k*7+4) _ (hx 4 (by omega));rwa[←Nat.add_assoc] at this
 ·have:=hc (k*7+5) _ (hx 5 (by omega));rwa[←Nat.add_assoc] at this
 have:=hc (k*7+6) _ (hx 6 (by omega));rwa[←Nat.add_assoc] at this
end
theorem below_drewN{B:Nat}{w w':World}(h:Below B w w')(m:Nat):Below B w (w'.drewN m):=⟨h.os,h.tape,h.output,h.size,h.block⟩
structure zP(w:World)(B:Nat)(A:Option Addr)(xs:List Gt):Prop where
 row:Reads w B 7 A xs.length (xA xs)
 sub:∀x∈xs,Reads w B 3 x.A x.ak.length (ld x.ak)
end
section
open Go.RowKit Tk Sx

structure ax where
 pre:L
 ns:L
def nQ(x:ax):List Value:=[.string (aa x.pre),.string (aa x.ns)]
def bP(l:List ax):List Value:=l.flatMap nQ
def yO:L:=[104,116,116,112,58,47,47,119,119,119,46,119,51,46,111,114,103,47,88,77,76,47,49,57,57,56,47,110,97,109,101,115,112,97,99,101]
def Gp:L:=[104,116,116,112,58,47,47,119,119,119,46,119,51,46,111,114,103,47,50,48,48,48,47,120,109,108,110,115,47]
def vU:L:=[120,109,108]
def tJ(l:List ax)(p:L)(m:Nat):L×Bool:=match (l.take m).reverse.find? fun d=>decide (d.pre=p) with
 | some d=>(d.ns,true)
 | none=>([],decide (p=[]))
def lQ(l:List ax)(p:L):L×Bool:=if p=vU then (yO,true) else tJ l p l.length
def lO(x:L×Bool):Value:=.tuple #[.string (aa x.1),.bool x.2]
theorem ak6{l:List ax}{p:L}:tJ l p 0=([],decide (p=[])):=rfl
theorem ak5{l:List ax}{p:L}{m:Nat}(h:m<l.length):tJ l p (m+1)=if l[m].pre=p then (l[m].ns,true) else tJ l p m:=by
 unfold tJ;rw[List.take_succ_eq_append_getElem h,List.reverse_append,List.reverse_singleton,List.singleton_append,List.find?_cons]
 by_cases he:l[m].pre=p
 ·rw[if_pos he];simp[he]
 rw[if_neg he];simp[he]
theorem acR(l:List ax):(bP l).length=l.length*2:=by
 induction l with
 | nil=>rfl
 | cons x l ih=>unfold bP at ih ⊢;rw[List.flatMap_cons,List.length_append,ih,List.length_cons];simp[nQ];omega
theorem acQ:∀(l:List ax) (k:Nat) (hk:k<l.length) (j:Nat),j<2→(bP l)[k*2+j]?=(nQ l[k])[j]?:=by
 intro l
 induction l with
 | nil=>intro k hk;simp at hk
 | cons x l ih=>
  intro k hk j hj;have hl:(nQ x).length=2:=rfl;unfold bP;rw[List.flatMap_cons]
  cases k with
  | zero=>rw[List.getElem?_append_left (by omega)];simp
  | succ k=>
   rw[List.getElem?_append_right (by omega),hl,show (k+1)*2+j-2=k*2+j from by omega];exact ih k (by simpa using hk) j hj
theorem Reads.o5{w:World}{B:Nat}{A:Option Addr}{l:List ax}(h:Reads w B 2 A l.length (bP l)){k:Nat}(hk:k<l.length) :
  ∃b off,A=some ⟨b,off,none⟩∧b<B∧w.cell? ⟨b,off+k*2,none⟩=some (.string (aa l[k].pre))∧w.cell? ⟨b,off+k*2+1,none⟩=some (.string (aa l[k].ns)):=by
 obtain⟨b,off,hA,hb,hc⟩:=h.2 (by omega);have hx:=acQ l k hk;refine⟨b,off,hA,hb,?_,?_⟩
 ·have:=hc (k*2+0) _ (hx 0 (by omega));simpa using this
 have:=hc (k*2+1) _ (hx 1 (by omega));rwa[←Nat.add_assoc] at this
theorem Dv(a b:L):((aa a).toList==(aa b).toList)=decide (a=b):=by
 rw[ByteArray.toList_eq,ByteArray.toList_eq,aP,aP,Bool.eq_iff_iff,beq_iff_eq,decide_eq_true_iff]

end
section
open Go.RowKit Tk Sx

theorem XT(A:Option Addr)(c B:Nat)(l:List ax)(p:L)(w:World)(h:Reads w B 2 A l.length (bP l))(hB:B≤w.heap.size)(hl:l.length≤1000000000) :
  Calls Tryz.prog 58 #[.slice A l.length c,.string (aa p)] w fun e w'=>e=.returned (lO (lQ l p))∧Below w.heap.size w w':=by
 have hx:((aa p).toList==[120,109,108])=decide (p=vU):=by rw[ByteArray.toList_eq,aP,Bool.eq_iff_iff,beq_iff_eq,decide_eq_true_iff];exact Iff.rfl
 have KJ:(aa p).toList.isEmpty=decide (p=[]):=by rw[ByteArray.toList_eq,aP];cases p<;>simp
 obtain⟨z,hz⟩:∃z,lQ l p=z:=⟨_,rfl⟩;rw[hz];unfold lQ at hz;have HR:=hide h;obtain⟨n,hn⟩:∃n,l.length=n:=⟨_,rfl⟩;have Hn:=hide hn;rw[hn] at hz hl ⊢;clear h hn
 by_cases hp:p=vU
 ·rw[decide_eq_true hp] at hx;have Hr:=hide (show lO z=.tuple #[.string (aa yO),.bool true] by rw[←hz,if_pos hp];rfl);clear hz hp
  go_enter Tryz.func58,Tryz.ntmps58
  go_wp2;go_ret2;rw[Hr.out];exact⟨rfl,Below.refl _ _⟩
 rw[decide_eq_false hp] at hx;rw[if_neg hp] at hz;have Hz:=hide hz;clear hz hp
 go_enter Tryz.func58,Tryz.ntmps58
 go_wp2
 go_loopg [12] n (fun g v wr=>∃i m:Nat,g=m∧i+m=n∧v=.int .i64 (i:Int)∧tJ l p m=z∧Below w.heap.size w wr)
 case atStart=>exact⟨0,n,rfl,by omega,rfl,Hz.out,Below.refl _ _⟩
 case round=>
  obtain⟨i,m,hg,sX,rfl,yc,bt⟩:=hrel;have Hg:=hide hg;have IM:=hide yc;have HB:=hide bt;clear hg yc Hz bt
  cases m with
  | zero=>
   have Hr:=hide (show lO z=.tuple #[.string ⟨#[]⟩,.bool (decide (p=[]))] by rw[←IM.out,ak6];rfl);have g0:¬i<n:=by omega
   clear sX;go_wp2;go_ret2;rw[Hr.out];exact⟨rfl,HB.out⟩
  | succ m=>
   have h1:m<l.length:=by rw[Hn.out];omega
   obtain⟨b,off,rfl,hb,c0,c1⟩:=Reads.o5 (HR.out.below (HB.out.mono hB)) h1;have hst:=ak5 (p:=p) h1;have hq:=Dv l[m].pre p;obtain⟨d,hd⟩:∃d,l[m]=d:=⟨_,rfl⟩;rw[hd] at c0 c1 hst hq;have cd:i<n:=by omega
   have vC:m<n:=by omega
   have lK:IntKind.i64.wrap ((n:Int)-1)=(n:Int)-1:=IntWalk.i64_in _ (by omega);have hw2:IntKind.i64.wrap ((n:Int)-1-(i:Int))=(m:Int):=by rw[IntWalk.i64_in _ (by omega)];omega
   have CY:=hide sX;have HT:=hide (ae.new wr 151 #[.string (aa d.pre),.string (aa d.ns)]);have ah:=hide (HB.out.alloc HB.out.size (.cells #[.string (aa d.pre),.string (aa d.ns)] 151));have y0:=ae.cell HT.out 0;have y1:=ae.cell HT.out 1;clear sX
   by_cases he:d.pre=p
   ·rw[decide_eq_true he] at hq;have Hr:=hide (show lO z=.tuple #[.string (aa d.ns),.bool true] by rw[←IM.out,hst,if_pos he];rfl);clear hst he hd;go_wp2;go_ret2;rw[Hr.out];exact⟨rfl,ah.out⟩
   rw[decide_eq_false he] at hq;have Hn2:=hide (show tJ l p m=z by rw[←IM.out,hst,if_neg he]);clear hst he hd;go_wp2
   go_roundg m
   case measure=>have:=Hg.out;omega
   case rel=>exact⟨i+1,m,rfl,by have:=CY.out;omega,by first|rfl|go_num,Hn2.out,ah.out⟩
end
section
open Go.RowKit Tk Sx

theorem ajv(r:Int)(w:World)(h:Utf.isScalar r=true):Calls Tryz.prog 195 #[.int .i64 r] w fun e w'=>e=.returned (.bool true)∧w'=w:=by
 simp[Utf.isScalar] at h;have g1:(0:Int)≤r:=h.1;have g2:r≤1114111:=h.2.1
 by_cases h3:r<55296
 ·clear h
  go_enter Tryz.func195,Tryz.ntmps195
  go_wp2;go_ret;exact⟨rfl,rfl⟩
 have g4:57343<r:=by omega
 clear h
 go_enter Tryz.func195,Tryz.ntmps195
 go_wp2;go_ret;exact⟨rfl,rfl⟩
theorem FY(r:Int)(w:World)(h:Utf.isScalar r=true):Calls Tryz.prog 178 #[.int .i64 r] w fun e w'=>e=.returned (.int .i64 (lenOf r))∧w'=w:=by
 have HI:=hide (fun W=>ajv r W h);obtain⟨z,hz⟩:∃z,lenOf r=z:=⟨_,rfl⟩;rw[hz];unfold lenOf at hz;clear h
 by_cases h1:r<128
 ·have Hr:=hide (show (1:Int)=z by rw[←hz,if_pos h1]);clear hz
  go_enter Tryz.func178,Tryz.ntmps178
  go_wp2_with fail
  refine cq (HI.out _) ?_
  go_wp2
  go_ret
  exact⟨aO (int_eq (Hr.out)),rfl⟩
 by_cases h2:r<2048
 ·have Hr:=hide (show (2:Int)=z by rw[←hz,if_neg h1,if_pos h2]);clear hz
  go_enter Tryz.func178,Tryz.ntmps178
  go_wp2_with fail
  refine cq (HI.out _) ?_
  go_wp2
  go_ret
  exact⟨aO (int_eq (Hr.out)),rfl⟩
 by_cases h3:r<65536
 ·have Hr:=hide (show (3:Int)=z by rw[←hz,if_neg h1,if_neg h2,if_pos h3]);clear hz
  go_enter Tryz.func178,Tryz.ntmps178
  go_wp2_with fail
  refine cq (HI.out _) ?_
  go_wp2
  go_ret
  exact⟨aO (int_eq (Hr.out)),rfl⟩
 have Hr:=hide (show (4:Int)=z by rw[←hz,if_neg h1,if_neg h2,if_neg h3]);clear hz
 go_enter Tryz.func178,Tryz.ntmps178
 go_wp2_with fail
 refine cq (HI.out _) ?_
 go_wp2
 go_ret
 exact⟨aO (int_eq (Hr.out)),rfl⟩

theorem Fi(x y:Int)(k:Nat)(h0:0≤x)(hy:0≤y)(hk:y<2 ^ k)(hx:x*2 ^ k+y<9223372036854775808)(z:Int)(hz:z=x*2 ^ k):bits .or .i64 z y=z+y:=by
 subst hz;exact Vj x y k h0 hy hk hx
theorem yj(x:Int)(h0:0≤x)(h1:x<9223372036854775808):bits .and .i64 x 63=x % 64:=tA x 6 h0 h1 (by omega) _ rfl
theorem yA(x:Int):bits .or .i64 128 (x % 64)=128+x % 64:=Fi 2 _ 6 (by omega) (by omega) (by omega) (by omega) _ rfl
def cF(r:Int):L:=(Utf.put r).map bv
def kW(r:Int)(w:World)(e:Ending)(w':World):Prop:=e=.returned (.tuple #[.string (aa (cF r)),.bool true])∧Below w.heap.size w w'
theorem kW.of{r:Int}{w w':World}{t:ByteArray}{e:Ending}(he:e=.returned (.tuple #[.string t,.bool true]))(ht:fT t (cF r))(hb:Below w.heap.size w w'):kW r w e w':=by
 unfold fT at ht;have:t=aa (cF r):=by rw[←ht,xl]
 subst this;exact⟨he,hb⟩
theorem ajD(r:Int)(w:World)(h:Utf.isScalar r=true)(h1:r<128):Calls Tryz.prog 145 #[.int .i64 r] w (kW r w):=by
 have HL:=hide (show ∀W,Calls Tryz.prog 178 #[.int .i64 r] W fun e w'=>e=.returned (.int .i64 1)∧w'=W from fun W=>by have:=FY r W h;unfold lenOf at this;rwa[if_pos h1] at this);have h0:0≤r∧r≤1114111:=by simp[Utf.isScalar] at h;omega
 have HP:=hide (show [bv (r)]=cF r by
  unfold cF Utf.put;rw[if_pos h1];simp only[List.map_cons,List.map_nil]
  all_goals rw[show (r)=(r:Int) by omega])
 clear h
 go_enter Tryz.func145,Tryz.ntmps145
 go_wp2_with fail
 refine cq (HL.out _) ?_
 go_wp2_with (with_reducible show wpList _ _ _ (⟨_,.convert 58 9 _,_,_,_,_⟩ :: _) _ _;refine oK rfl 58 9 5 _ rfl Tryz.underlying58 Tryz.underlying5 Tryz.underlying9 w.heap.size _ 1 rfl _ (aie w _ _ _ rfl (Nat.le_refl _) (r) ⟨by omega,by omega⟩) ?_;intro t ht)
 go_ret2;exact kW.of rfl (by rw[←HP.out];exact ht) (az w _)
theorem ajE(r:Int)(w:World)(h:Utf.isScalar r=true)(h1:¬r<128)(h2:r<2048):Calls Tryz.prog 145 #[.int .i64 r] w (kW r w):=by
 have HL:=hide (show ∀W,Calls Tryz.prog 178 #[.int .i64 r] W fun e w'=>e=.returned (.int .i64 2)∧w'=W from fun W=>by have:=FY r W h;unfold lenOf at this;rwa[if_neg h1,if_pos h2] at this);have h0:0≤r∧r≤1114111:=by simp[Utf.isScalar] at h;omega
 have a0:bits .and .i64 r 63=r % 64:=yj r (by omega) (by omega);have b0:=yA r;have o1:bits .or .i64 192 (r / 64)=192+r / 64:=Fi 6 _ 5 (by omega) (by omega) (by omega) (by omega) _ rfl
 have HP:=hide (show [bv ((192+r / 64)),bv ((128+r % 64))]=cF r by
  unfold cF Utf.put;rw[if_neg h1,if_pos h2];simp only[List.map_cons,List.map_nil]
  all_goals rw[show ((192+r / 64))=(192+r / 64:Int) by omega,show ((128+r % 64))=(128+r % 64:Int) by omega])
 clear h
 go_enter Tryz.func145,Tryz.ntmps145
 go_wp2_with fail
 refine cq (HL.out _) ?_
 go_wp2_with (with_reducible show wpList _ _ _ (⟨_,.convert 58 9 _,_,_,_,_⟩ :: _) _ _;refine oK rfl 58 9 5 _ rfl Tryz.underlying58 Tryz.underlying5 Tryz.underlying9 w.heap.size _ 2 rfl _ (WA w _ _ _ rfl (Nat.le_refl _) ((192+r / 64)) ((128+r % 64)) ⟨by omega,by omega⟩ ⟨by omega,by omega⟩) ?_;intro t ht)
 go_ret2;exact kW.of rfl (by rw[←HP.out];exact ht) (az w _)
theorem ajF(r:Int)(w:World)(h:Utf.isScalar r=true)(h1:¬r<128)(h2:¬r<2048)(h3:r<65536):Calls Tryz.prog 145 #[.int .i64 r] w (kW r w):=by
 have HL:=hide (show ∀W,Calls Tryz.prog 178 #[.int .i64 r] W fun e w'=>e=.returned (.int .i64 3)∧w'=W from fun W=>by have:=FY r W h;unfold lenOf at this;rwa[if_neg h1,if_neg h2,if_pos h3] at this);have h0:0≤r∧r≤1114111:=by simp[Utf.isScalar] at h;omega
 have a0:bits .and .i64 r 63=r % 64:=yj r (by omega) (by omega);have b0:=yA r;have a1:bits .and .i64 (r / 64) 63=r / 64 % 64:=yj _ (by omega) (by omega);have b1:=yA (r / 64);have o1:bits .or .i64 224 (r / 4096)=224+r / 4096:=Fi 14 _ 4 (by omega) (by omega) (by omega) (by omega) _ rfl
 have HP:=hide (show [bv ((224+r / 4096)),bv ((128+r / 64 % 64)),bv ((128+r % 64))]=cF r by
  unfold cF Utf.put;rw[if_neg h1,if_neg h2,if_pos h3];simp only[List.map_cons,List.map_nil]
  all_goals rw[show ((224+r / 4096))=(224+r / 64 / 64:Int) by omega,show ((128+r / 64 % 64))=(128+r / 64 % 64:Int) by omega,show ((128+r % 64))=(128+r % 64:Int) by omega])
 clear h
 go_enter Tryz.func145,Tryz.ntmps145
 go_wp2_with fail
 refine cq (HL.out _) ?_
 go_wp2_with (with_reducible show wpList _ _ _ (⟨_,.convert 58 9 _,_,_,_,_⟩ :: _) _ _;refine oK rfl 58 9 5 _ rfl Tryz.underlying58 Tryz.underlying5 Tryz.underlying9 w.heap.size _ 3 rfl _ (WB w _ _ _ rfl (Nat.le_refl _) ((224+r / 4096)) ((128+r / 64 % 64)) ((128+r % 64)) ⟨by omega,by omega⟩ ⟨by omega,by omega⟩ ⟨by omega,by omega⟩) ?_;intro t ht)
 go_ret2;exact kW.of rfl (by rw[←HP.out];exact ht) (az w _)
theorem ajG(r:Int)(w:World)(h:Utf.isScalar r=true)(h1:¬r<128)(h2:¬r<2048)(h3:¬r<65536):Calls Tryz.prog 145 #[.int .i64 r] w (kW r w):=by
 have HL:=hide (show ∀W,Calls Tryz.prog 178 #[.int .i64 r] W fun e w'=>e=.returned (.int .i64 4)∧w'=W from fun W=>by have:=FY r W h;unfold lenOf at this;rwa[if_neg h1,if_neg h2,if_neg h3] at this);have h0:0≤r∧r≤1114111:=by simp[Utf.isScalar] at h;omega
 have a0:bits .and .i64 r 63=r % 64:=yj r (by omega) (by omega);have b0:=yA r;have a1:bits .and .i64 (r / 64) 63=r / 64 % 64:=yj _ (by omega) (by omega);have b1:=yA (r / 64);have a2:bits .and .i64 (r / 4096) 63=r / 4096 % 64:=yj _ (by omega) (by omega);have b2:=yA (r / 4096);have o1:bits .or .i64 240 (r / 262144)=240+r / 262144:=Fi 30 _ 3 (by omega) (by omega) (by omega) (by omega) _ rfl
 have HP:=hide (show [bv ((240+r / 262144)),bv ((128+r / 4096 % 64)),bv ((128+r / 64 % 64)),bv ((128+r % 64))]=cF r by
  unfold cF Utf.put;rw[if_neg h1,if_neg h2,if_neg h3];simp only[List.map_cons,List.map_nil]
  all_goals rw[show ((240+r / 262144))=(240+r / 64 / 64 / 64:Int) by omega,show ((128+r / 4096 % 64))=(128+r / 64 / 64 % 64:Int) by omega,show ((128+r / 64 % 64))=(128+r / 64 % 64:Int) by omega,show ((128+r % 64))=(128+r % 64:Int) by omega])
 clear h
 go_enter Tryz.func145,Tryz.ntmps145
 go_wp2_with fail
 refine cq (HL.out _) ?_
 go_wp2_with (with_reducible show wpList _ _ _ (⟨_,.convert 58 9 _,_,_,_,_⟩ :: _) _ _;refine oK rfl 58 9 5 _ rfl Tryz.underlying58 Tryz.underlying5 Tryz.underlying9 w.heap.size _ 4 rfl _ (WC w _ _ _ rfl (Nat.le_refl _) ((240+r / 262144)) ((128+r / 4096 % 64)) ((128+r / 64 % 64)) ((128+r % 64)) ⟨by omega,by omega⟩ ⟨by omega,by omega⟩ ⟨by omega,by omega⟩ ⟨by omega,by omega⟩) ?_;intro t ht)
 go_ret2;exact kW.of rfl (by rw[←HP.out];exact ht) (az w _)
theorem ajH(r:Int)(w:World)(h:Utf.isScalar r=true):Calls Tryz.prog 145 #[.int .i64 r] w (kW r w):=by
 by_cases h1:r<128
 ·exact ajD r w h h1
 by_cases h2:r<2048
 ·exact ajE r w h h1 h2
 by_cases h3:r<65536
 ·exact ajF r w h h1 h2 h3
 exact ajG r w h h1 h2 h3
theorem air(r:Int)(w:World)(h:Utf.isScalar r=true):Calls Tryz.prog 95 #[.int .i64 r] w (kW r w) :=
 (ML r w h).mono fun _ _ ⟨⟨_,he,ht⟩,hb⟩=>kW.of he ht hb
theorem MK(r:Int):(cF r).length≤4:=by unfold cF;rw[List.length_map];exact yI r
end
end Go.Proofs.YtnbmfljhbpfilaaGreatDoor
