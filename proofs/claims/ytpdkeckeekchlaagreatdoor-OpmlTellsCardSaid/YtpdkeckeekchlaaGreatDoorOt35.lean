/- model.May: which entries were seen (a map of pairs: a sub's Url, an entry's Id). And more. -/
import Derived.Test.YtpdkeckeekchlaaGreatDoorOt34
import Derived.Deep.RegionLaw
set_option linter.unusedSimpArgs false
set_option maxHeartbeats 4000000
set_option linter.unusedVariables false
namespace Go.Proofs.YtpdkeckeekchlaaGreatDoor
section
open Go.RowKit Tk Sx Go.WideShapes

theorem akG:(95:TypeId)<Tryz.prog.types.size:=of_decide_eq_true (by kernel_rfl)
theorem ab6:Tryz.prog.keyTypeAt 2 95=true:=by kernel_rfl
theorem ag6:WideMaps.KeyLaw Tryz.prog 95:=deep_law_laid Wa (m:=2) (by decide) akG ab6 (by rw[Tryz.underlying95])
theorem Wh:Maps.Keyed Tryz.prog 95:=Maps.Keyed.of_law ag6
theorem Si:Tryz.prog.cellsOf 95=2:=by kernel_rfl
theorem ag2:Tryz.prog.keyType 95=true:=by kernel_rfl
theorem V0{x:Nm}(h:gM x):keyOf Tryz.prog 95 (nR x)=some (gF x):=by
 have h1:(aa x.ns).size≤maxLen:=by rw[aO];unfold maxLen;have:=h.1;omega
 have h2:(aa x.loc).size≤maxLen:=by rw[aO];unfold maxLen;have:=h.2;omega
 obtain⟨m,hm⟩:=YT;unfold keyOf nR;simp only[Tryz.underlying95];rw[if_pos (by simp[ag2,Value.formed,Tryz.underlying95,Si]),hm];unfold Program.keyLits;simp only[Tryz.underlying95,Value.cells];simp[Si,Sl,Program.keyLits,Tryz.underlying9,h1,h2,List.mapM_cons,gF,aZ]
structure j9(W:World)(mb n:Nat)(seen:List Nm)(D:DataW Unit):Prop where
 own:W.ownsMap Tryz.prog 95 (plainElem Tryz.prog 4) mb n D
 is:Maps.IsMap D
 ok:∀x:Nm,gM x→D.atKey (gF x) (.lit (.bool false))=.lit (.bool (decide (x∈seen)))
theorem j9.new(w:World):j9 (w.alloc (.map #[] 0)) w.heap.size 0 [] (.map []):=⟨World.ownsMap_made _ _ _ _,Maps.isMap_empty,fun _ _=>by simp[DataW.atKey]⟩
theorem j9.same{W W':World}{mb n:Nat}{seen:List Nm}{D:DataW Unit}(h:j9 W mb n seen D)(e:W'.heap[mb]?=W.heap[mb]?):j9 W' mb n seen D:=⟨nO h.own e,h.is,h.ok⟩
theorem j9.lt{W:World}{mb n:Nat}{seen:List Nm}{D:DataW Unit}(h:j9 W mb n seen D):mb<W.heap.size:=h.own.lt
theorem j9.next{W W':World}{mb n:Nat}{seen:List Nm}{D:DataW Unit}{x:Nm}(h:j9 W mb n seen D)(hx:gM x)(ho:W'.ownsMap Tryz.prog 95 (plainElem Tryz.prog 4) mb (n+1) (D.put (gF x) (.lit (.bool true)))):j9 W' mb (n+1) (x :: seen) (D.put (gF x) (.lit (.bool true))):=by
 refine⟨ho,h.is.put _ _,fun y hy=>?_⟩
 by_cases hm:y=x
 ·subst hm;rw[Maps.atKey_put_same h.is (by simp[WideAt.IsKeyLit,gF])];simp
 rw[Maps.atKey_put_other (fun e=>hm (MK hy hx e)),h.ok y hy];simp[hm]
theorem j9.find{W:World}{mb n:Nat}{seen:List Nm}{D:DataW Unit}(h:j9 W mb n seen D){x:Nm}(hx:gM x) :
  (Instr.lookup 86 (.map (some mb)) (nR x) false).run Tryz.prog W=.ok (.bool (decide (x∈seen))) W:=by
 obtain⟨v,ps,hrun,hv⟩:=h.own.lookup Wh Tryz.underlying86 (OT W) (plainElem_bool Tryz.underlying4 false) (V0 hx);obtain⟨c,rfl,hc⟩:=Nq Tryz.underlying4 hv;simp only[Prod.mk.injEq] at hc;have hr:=hc.1;rw[h.ok x hx] at hr;simp only[DataW.lit.injEq,Lit.bool.injEq] at hr;subst hr;exact hrun
end
section
open Go.RowKit Rec
attribute [local go_sem ↓] Go.wp_at_zero Go.wp_at_succ

structure cE(base t b:Nat)(w w':World):Prop where
 os:w'.os=w.os
 tape:w'.tape=w.tape
 output:w'.output=w.output
 size:w.heap.size≤w'.heap.size
 block:∀k,k<w.heap.size→k≠b→¬(base≤k∧bN w k t)→w'.heap[k]?=w.heap[k]?
section
variable {base t b:Nat} {w w1 w':World}
theorem cE.refl(base t b:Nat)(w:World):cE base t b w w:=⟨rfl,rfl,rfl,Nat.le_refl _,fun _ _ _ _=>rfl⟩
theorem cE.trans(h:cE base t b w w1)(k:cE base t b w1 w'):cE base t b w w':=by
 refine⟨k.os.trans h.os,k.tape.trans h.tape,k.output.trans h.output,Nat.le_trans h.size k.size,fun i hi hb hn=>?_⟩;have e:=h.block i hi hb hn;rw[k.block i (Nat.lt_of_lt_of_le hi h.size) hb ?_,e];rintro ⟨h1,cs,fr,h2⟩;exact hn ⟨h1,cs,fr,by rw[←e];exact h2⟩
theorem cE.below{B:Nat}(h:cE base t b w w')(hB:B≤base)(hb:B≤b)(hs:B≤w.heap.size):Below B w w' :=
 ⟨h.os,h.tape,h.output,h.size,fun k hk=>h.block k (by omega) (by omega) (fun hh=>by omega)⟩
theorem cE.blk{g t':Nat}{cs:Array Value}(h:cE base t b w w')(hg:ae w g t' cs)(hb:g≠b)(ht:t'≠t):ae w' g t' cs:=by
 refine (h.block g hg.lt hb ?_).trans hg;rintro ⟨_,cs',fr,h2⟩;unfold ae at hg;rw[hg] at h2;injection h2 with h2
 injection h2 with _ h3
 exact ht h3
theorem cE.alloc(h:cE base t b w w1)(o:Obj):cE base t b w (w1.alloc o):=h.trans ⟨rfl,rfl,rfl,by simp,fun k hk _ _=>Below.heap_alloc _ _ _ hk⟩
theorem cE.drew(h:cE base t b w w1):cE base t b w w1.drew:=⟨h.os,h.tape,h.output,h.size,h.block⟩
theorem cE.setCell(h:cE base t b w w1){p:Addr}(hp:p.block=b∨w.heap.size≤p.block)(u:Value):cE base t b w (w1.setCell p u):=by
 refine⟨h.os,h.tape,h.output,by simpa[World.setCell] using h.size,fun k hk hb hn=>?_⟩;rw[Below.heap_setCell _ _ _ _ (by omega)];exact h.block k hk hb hn
theorem cE.grown(h:cE base t b w w1){row:Option Nat}(hg:w1.grownBy w' row)(hr:∀k,row=some k→base≤k∧bN w1 k t):cE base t b w w' :=
 h.trans ⟨hg.os,hg.tape,hg.output,hg.size,fun k h1 _ hn=>hg.block k h1 (fun e=>hn (hr k e.symm))⟩
end

structure Wr(w:World)(base B:Nat)(l:List UInt8)(A:Option Addr)(c:Nat):Prop where
 blk:ae w B 204 #[.slice A l.length c]
 own:w.ownsRow base 5 1 (.slice A l.length c) l.length (bE l)
 base:base≤w.heap.size
 len:l.length≤1000000000

theorem Wr.ne{w:World}{base B:Nat}{l:List UInt8}{A:Option Addr}{c:Nat}(h:Wr w base B l A c):(Value.slice A l.length c).ownBlock≠some B:=bR h.own h.blk (by decide)

section
variable {P:Program} {ops:Array Oper} {o:Oper} {a:Act} {K:Act→World→Prop} {Q:Exit→Act→World→Prop} {E:Prop} {w:World}
theorem YC(hgd:o.guard=none)(s x:Operand)(t:TypeId)(ho:o.op=.call { callee:=.builtin .append,args:=#[s,x],argTypes:=#[t,t] })
  (base B:Nat) (l:List UInt8) (A:Option Addr) (c:Nat) (hW:Wr w base B l A c) (ht:P.underlying t=some (.slice 5))
  (eL:(P.info? 5).map (fun i=>(i.zero,i.size,i.bytes))=some (some (.int .u8 0),1,1))
  (hs:a.eval s=.slice A l.length c) (r:Int) (hr:0≤r∧r<256) (H:Nat) (hH:w.heap.size=H) (hx:a.eval x=.slice (some ⟨H,0,none⟩) 1 1)
  (h:∀A' c' w',ae w' B 204 #[.slice A l.length c]→w'.ownsRow base 5 1 (.slice A' (l.length+1) c') (l.length+1) (bE (l++[bv r]))→cE base 5 B w w'→
   K (a.put o.dst (.slice A' (l.length+1) c')) w') :
  if Region.wanted o (yielded ops a.tmps)=true then Oper.wp P o a (w.alloc (.cells #[.int .u8 r] 5)).drew K Q else E:=by
 subst hH;obtain⟨i,hi,hz,hsize,hby⟩:=info_parts eL;have hl:=hW.len;have gQ:=hW.base;have ak:bE [bv r]=[.int .u8 r]:=RX r hr.1 hr.2
 refine step_append_lies _ hgd s x t ho base 5 i (.int .u8 0) 1 1 ht hi hz hsize hby rfl (by omega) _ l.length (bE l) hs ((hW.own.alloc _).drew) ⟨w.heap.size,0,none⟩ 1 1 (bE [bv r]) hx rfl ?_ (acG _) (by omega)
  (by unfold maxLen;omega) (by omega) (by simp[World.drew];omega) _ rfl ?_
 ·rw[ak];intro j u hu;exact World.news_of_block (ae.new w 5 #[.int .u8 r]) j u (by simpa using hu)
 intro g cap w' hown hgrow hg hlt;have k1:ae (w.alloc (.cells #[.int .u8 r] 5)).drew B 204 #[.slice A l.length c]:=(hW.blk.alloc _).drew;have hne:some B≠(Value.slice A l.length c).ownBlock:=fun e=>hW.ne e.symm;have t1:cE base 5 B w (w.alloc (.cells #[.int .u8 r] 5)).drew:=((cE.refl base 5 B w).alloc _).drew;rw[←Et] at hown;refine h _ _ w' (k1.grown hgrow hne) hown (t1.grown hgrow (aD ((hW.own.alloc _).drew)))
end

theorem Wr.next{w w':World}{base B n:Nat}{l l':List UInt8}{A A':Option Addr}{c c':Nat}(hW:Wr w base B l A c)(hk:ae w' B 204 #[.slice A l.length c])(ho:w'.ownsRow base 5 1 (.slice A' n c') n (bE l'))(ht:cE base 5 B w w')(hn:n=l'.length)(hl:l'.length≤1000000000) :
  Wr (w'.setCell ⟨B,0,none⟩ (.slice A' n c')) base B l' A' c'∧cE base 5 B w (w'.setCell ⟨B,0,none⟩ (.slice A' n c')):=by
 subst hn;refine⟨⟨?_,?_,?_,hl⟩,ht.setCell (.inl rfl) _⟩
 ·have:=hk.aH 0 (.slice A' l'.length c')
  simpa using this
 ·exact ownsRow_setCell_other ho (a:=⟨B,0,none⟩) (bR ho hk (by decide)) _
 have:=hW.base;have:=ht.size;simp[World.setCell];omega

theorem alp{P:Program}(n k:Nat)(hk:k<4)(w:World):(Op.shift .shr .i64 (n:Int) .i64 (IntKind.i64.wrap (8*(k:Int)))).run P w=.ok (.int .i64 ((n / 256 ^ k:Nat):Int)) w:=by
 have hw:IntKind.i64.wrap (8*(k:Int))=8*(k:Int):=IntWalk.i64_in _ (by omega);rw[hw,shift_shr_any _ _ _ _ (by omega)]
 have h1:min (8*(k:Int)).toNat IntKind.i64.bits=8*k:=by
  have:IntKind.i64.bits=64:=rfl;omega
 have h2:(2:Int) ^ (8*k)=((256 ^ k:Nat):Int):=by
  have:k=0∨k=1∨k=2∨k=3:=by omega
  rcases this with rfl|rfl|rfl|rfl<;>rfl
 rw[h1,h2];rfl
theorem wrap_u8(m:Nat):IntKind.u8.wrap (m:Int)=((m % 256:Nat):Int):=by
 unfold IntKind.wrap;have h1:IntKind.u8.bits=8:=rfl;have h2:IntKind.u8.signed=false:=rfl;rw[h1,h2];simp
theorem aho(l:List UInt8)(n k:Nat):(l++(num n).take k).length≤l.length+4:=by
 have:(num (n:Int)).length=4:=rfl;simp;omega
theorem ah7(n k:Nat)(hk:k<4):(num n).take (k+1)=(num n).take k++[bv ((n / 256 ^ k % 256:Nat):Int)]:=by
 have:k=0∨k=1∨k=2∨k=3:=by omega
 rcases this with rfl|rfl|rfl|rfl<;>simp[num,bv]

theorem anD(n:Nat)(w:World)(base B:Nat)(l:List UInt8)(A:Option Addr)(c:Nat)(hW:Wr w base B l A c)(hl:l.length≤900000000)(hn:n<1000000000000) :
  Calls Tryz.prog 173 #[.pointer (some ⟨B,0,none⟩),.int .i64 n] w fun e w'=>e=.returned (.tuple #[])∧(∃A' c',Wr w' base B (l++num n) A' c')∧cE base 5 B w w':=by
 have HW:=ap hW;clear hW
 go_enter Tryz.func173,Tryz.ntmps173
 go_wp2
 go_loopg [5] 4 (fun g vi wr=>∃k:Nat,g=4-k∧k≤4∧vi=.int .i64 k∧(∃A' c',Wr wr base B (l++(num n).take k) A' c')∧cE base 5 B w wr)
 case atStart=>exact⟨0,rfl,by omega,rfl,⟨A,c,by simpa using HW.o⟩,cE.refl _ _ _ _⟩
 case round=>
  obtain⟨k,hg,hk,rfl,⟨A',c',hW⟩,ht⟩:=hrel;have Hg:=ap hg;have Ht:=ap ht;obtain⟨L,hL⟩:∃L,l++(num n).take k=L:=⟨_,rfl⟩;rw[hL] at hW;have Jd:=ap hW;have HL:=ap hL;have q0:wr.cell? ⟨B,0,none⟩=some (.slice A' L.length c'):=hW.blk.cell 0;have qf:=hW.blk.frozen 0;clear hg ht hW hL
  by_cases hlt:k<4
  ·obtain⟨m,hm⟩:∃m,n / 256 ^ k=m:=⟨_,rfl⟩;obtain⟨r,hr⟩:∃r,m % 256=r:=⟨_,rfl⟩;have tZ:∀w,(Op.shift .shr .i64 (n:Int) .i64 (IntKind.i64.wrap (8*(k:Int)))).run Tryz.prog w=.ok (.int .i64 (m:Int)) w:=fun w=>by rw[←hm];exact alp n k hlt w
   have hwr:IntKind.u8.wrap (m:Int)=(r:Int):=by rw[←hr];exact wrap_u8 m
   have apu:r<256:=by omega
   have Hm:=ap hm;have Hr:=ap hr;clear hm hr;have qa:∀o,(wr.alloc o).cell? ⟨B,0,none⟩=some (.slice A' L.length c'):=fun o=>ox (ay _ _) q0;go_wp2
   go_region_law ((refine YC (by rfl) _ _ _ (by rfl) base B L A' c' Jd.o Tryz.underlying50 (by kernel_rfl) (by rfl) r (by omega) wr.heap.size rfl (by rfl) ?_;intro A2 c2 w2 bu bg fe;have Nu:=bu.frozen 0;have q2:=bu.cell 0))
   all_goals
    have HN:=Jd.o.next bu bg fe (by simp) (by have:=aho l n k;rw[HL.o] at this;simp;omega);have xx:=ap HN.1;have zO:=ap HN.2;clear HN Nu q2 bu bg fe;go_wp2
    go_roundg (4-(k+1))
    case measure=>have:=Hg.o;omega
    case rel=>exact⟨k+1,rfl,by omega,by go_num,⟨A2,c2,by rw[ah7 n k hlt,←List.append_assoc,HL.o,Hm.o,Hr.o];exact xx.o⟩,Ht.o.trans zO.o⟩
  go_wp2;go_end0;have UM:k=4:=by omega
  refine⟨rfl,⟨A',c',?_⟩,Ht.o⟩;have:=HL.o;rw[UM] at this;have h4:(num (n:Int)).take 4=num n:=rfl;rw[h4] at this;rw[this];exact Jd.o
end
section
open Go.RowKit Rec

theorem Wr.alloc{w:World}{base B:Nat}{l:List UInt8}{A:Option Addr}{c:Nat}(h:Wr w base B l A c)(o:Obj):Wr (w.alloc o) base B l A c :=
 ⟨h.blk.alloc o,h.own.alloc o,Nat.le_trans h.base (by simp),h.len⟩
theorem agP:(Tryz.prog.info? 5).map (fun i=>(i.zero,i.size,i.bytes))=some (some (.int .u8 0),1,1):=by kernel_rfl

theorem anP{w w':World}{base B n:Nat}{l l':List UInt8}{A A':Option Addr}{c c':Nat}(hW:Wr w base B l A c)(hown:w'.ownsRow base 5 1 (.slice A' n c') n (bE l'))(hgrow:w.grownBy w' (Value.slice A l.length c).ownBlock) :
  ae w' B 204 #[.slice A l.length c]∧cE base 5 B w w' :=
 ⟨hW.blk.grown hgrow (fun e=>hW.ne e.symm),(cE.refl base 5 B w).grown hgrow (aD hW.own)⟩

theorem anS(s:ByteArray)(w:World)(base B:Nat)(l:List UInt8)(A:Option Addr)(c:Nat)(hW:Wr w base B l A c)(hl:l.length≤800000000)(hs:s.size≤10000000) :
  Calls Tryz.prog 174 #[.pointer (some ⟨B,0,none⟩),.string s] w fun e w'=>e=.returned (.tuple #[])∧(∃A' c',Wr w' base B (l++text s) A' c')∧cE base 5 B w w':=by
 have HN:=ap (anD s.size w base B l A c hW (by omega) (by omega));have hlen:(l++num (s.size:Int)).length=l.length+4:=by simp[num]
 obtain⟨L,hL⟩:∃L,l++num (s.size:Int)=L:=⟨_,rfl⟩;rw[hL] at HN hlen;have HL:=ap hL;have hLl:L.length≤900000000:=by omega
 clear hL hlen hW;obtain⟨pl,hp⟩:∃pl,fS s pl:=⟨_,rfl⟩;have hpl:pl.length=s.size:=hp.size.symm;have Hp:=ap hp;clear hp
 go_enter Tryz.func174,Tryz.ntmps174
 go_wp2_with first
  | (go_at_call 173;refine HN.o.mono ?_;rintro e w1 ⟨rfl,⟨A1,c1,yg⟩,lV⟩;have qK:=ap yg;have oh:=ap lV;have q1:w1.cell? ⟨B,0,none⟩=some (.slice A1 L.length c1):=yg.blk.cell 0;clear yg lV)
  | (at_builtin;go_loud (refine OM _ rfl (.tmp 12) (.tmp 13) 50 9 rfl base 5 Tryz.underlying50 Tryz.underlying9 agP (.slice A1 L.length c1) L.length L rfl qK.o.own s pl Hp.o rfl (by omega) qK.o.base ?_);intro A2 c2 w2 hown2 hgrow2;obtain⟨k2,t2⟩:=anP qK.o hown2 hgrow2;have q2:=k2.cell 0;have f2:=k2.frozen 0)
 go_end0;obtain⟨h1,h2⟩:=qK.o.next k2 hown2 t2 (by simp) (by simp;omega)
 have e1:L++pl=l++text s:=by
  unfold text;rw[←List.append_assoc,HL.o,show s.data.toList=pl from Hp.o]
 rw[e1] at h1;rw[hpl] at h1 h2;exact⟨rfl,⟨_,_,h1⟩,oh.o.trans h2⟩
end
section
open Go.RowKit Rec
attribute [local go_sem ↓] Go.wp_at_zero Go.wp_at_succ

def ja(u:ByteArray):Array Value:=#[.int .i8 1,.int .i64 0,.string u,.string ⟨#[]⟩,.bool false,.slice none 0 0,.string ⟨#[]⟩,.slice none 0 0]
theorem adW(w:World):Calls Tryz.prog 211 #[.slice none 0 0,.slice none 0 0] w fun e w'=>e=.returned (.bool true)∧w'=w:=by
 go_enter Tryz.func211,Tryz.ntmps211
 go_wp2;refine wp_loop_rounds 1 ?_;rw[rounds_succ];go_wp2;go_ret;exact⟨rfl,rfl⟩
theorem adX(w:World):Calls Tryz.prog 230 #[.slice none 0 0,.slice none 0 0] w fun e w'=>e=.returned (.bool true)∧w'=w:=by
 go_enter Tryz.func230,Tryz.ntmps230
 go_wp2;refine wp_loop_rounds 1 ?_;rw[rounds_succ];go_wp2;go_ret;exact⟨rfl,rfl⟩
theorem alb(w:World):Calls Tryz.prog 212 #[.agg #[.string ⟨#[]⟩,.slice none 0 0],.agg #[.string ⟨#[]⟩,.slice none 0 0]] w fun e w'=>e=.returned (.bool true)∧Below w.heap.size w w':=by
 go_enter Tryz.func212,Tryz.ntmps212
 go_wp2_with (go_at_call 230;refine (adX _).mono ?_;rintro e w' ⟨rfl,rfl⟩)
 go_ret;exact⟨rfl,ri _ _ _⟩
theorem akN(u:ByteArray)(w:World):Calls Tryz.prog 172 #[.agg (ja u),.agg (ja u)] w fun e w'=>e=.returned (.bool true)∧Below w.heap.size w w':=by
 have e3:(u.toList==u.toList)=true:=by simp
 unfold ja
 go_enter Tryz.func172,Tryz.ntmps172
 go_wp2_with first | (go_at_call 211;refine (adW _).mono ?_;rintro e w' ⟨rfl,rfl⟩) | (go_at_call 212;refine (alb _).mono ?_;rintro e w' ⟨rfl,hb⟩)
 go_ret;exact⟨rfl,mm (ri _ _ _) hb (Nat.le_refl _)⟩
theorem akn(u:ByteArray)(w:World):Calls Tryz.prog 126 #[.agg (ja u)] w fun e w'=>e=.returned (.bool (gX u))∧Below w.heap.size w w':=by
 have HS:=ap fun (W:World)=>akN u W;have HU:=ap fun W=>am7 u W;unfold ja at HS ⊢;obtain⟨o,ho⟩:∃o,gX u=o:=⟨_,rfl⟩;rw[ho] at HU ⊢;clear ho;cases o
 all_goals
  go_enter Tryz.func126,Tryz.ntmps126
  go_wp2
  go_region_with ((go_at_call 168;refine (HU.o _).mono ?_;rintro e w' ⟨rfl,rfl⟩))
  all_goals go_wp2_with (go_at_call 172;refine (HS.o _).mono ?_;rintro e w' ⟨rfl,hb⟩)
  all_goals go_ret
  all_goals first|exact⟨rfl,ri _ _ _⟩|exact⟨rfl,Below.drew (ri _ _ _)⟩|exact⟨rfl,mm (ri _ _ _) (by assumption) (Nat.le_refl _)⟩|exact⟨rfl,mm (Below.drew (ri _ _ _)) (by assumption) (Nat.le_refl _)⟩|exact⟨rfl,mm (Below.drew (Below.drew (ri _ _ _))) (by assumption) (Nat.le_refl _)⟩
theorem anQ(u:ByteArray)(w:World)(base B:Nat)(hW:Wr w base B [] none 0)(hu:u.size≤64) :
  Calls Tryz.prog 127 #[.pointer (some ⟨B,0,none⟩),.agg (ja u)] w fun e w'=>e=.returned (.tuple #[])∧(∃l A' c',l.length≤100∧Wr w' base B l A' c')∧cE base 5 B w w':=by
 have HW:=ap hW;have HB:=ap (show B≠w.heap.size from fun e=>by have:=hW.blk.lt;omega);have qb:∀o,(w.alloc o).cell? ⟨B,0,none⟩=some (.slice none 0 0):=fun o=>ox (ay _ _) (hW.blk.cell 0);have qb2:∀o o',((w.alloc o).alloc o').cell? ⟨B,0,none⟩=some (.slice none 0 0):=fun o o'=>ox (ay _ _) (qb o);have jN:IntKind.u8.wrap 1=1:=by decide
 clear hW;unfold ja
 go_enter Tryz.func127,Tryz.ntmps127
 go_wp2
 go_region_law ((refine YC (w:=w.alloc (.cells (ja u) 45)) (by rfl) _ _ _ (by rfl) base B [] none 0 (HW.o.alloc _) Tryz.underlying50 (by kernel_rfl) (by rfl) 1 (by omega) (w.heap.size+1) (by simp) (by rfl) ?_;intro A4 c4 w2 bu bg fe;have Nu:=bu.frozen 0;have q2:=bu.cell 0))
 all_goals
  have HN:=(HW.o.alloc (.cells (ja u) 45)).next (n:=1) (l':=[bv 1]) bu bg fe rfl (by simp);have kk:=(fe.blk (ae.new w 45 (ja u)) HB.o.symm (by decide)).far (p:=⟨B,0,none⟩) HB.o.symm (.slice A4 1 c4);have xx:=ap HN.1;have zO:=ap (((cE.refl base 5 B w).alloc _).trans HN.2);unfold ja at kk;have k0:=kk.cell 0;have k2:=kk.cell 2;clear HN kk Nu q2 bu bg fe jN qb qb2
  go_wp2_with fail
  refine (anS u _ base B _ A4 c4 xx.o (by simp) (by omega)).mono ?_;rintro e w2 ⟨rfl,⟨B2,d2,hW⟩,ht⟩;have HF:=ap (And.intro hW (zO.o.trans ht));clear hW ht;go_wp2;go_end0;exact⟨rfl,⟨_,B2,d2,by simp[text,num];omega,HF.o.1⟩,HF.o.2⟩
theorem ajD(u:ByteArray)(w:World):Calls Tryz.prog 91 #[.agg (ja u)] w fun e w'=>(∃s,e=.returned (.tuple #[.string s,.int .i64 (if gX u=true then 0 else 2)]))∧Below w.heap.size w w':=by
 have HM:=ap fun W=>akn u W
 cases ho:gX u
 ·rw[ho] at HM;clear ho;unfold ja at HM ⊢
  go_enter Tryz.func91,Tryz.ntmps91
  go_wp2_with (go_at_call 126;refine (HM.o _).mono ?_;rintro e w1 ⟨rfl,hb⟩)
  go_ret2;exact⟨⟨_,rfl⟩,mm (ay _ _) (by assumption) (Nat.le_refl _)⟩
 rw[ho] at HM;have hu:u.size≤64:=(of_decide_eq_true ho).2;have Qm:=ap fun (W W':World) (Bc:W'=W.alloc (.cells #[.slice none 0 0] 204))=>anQ u W' W.heap.size W.heap.size (by subst Bc;exact⟨ae.new W 204 #[.slice none 0 0],World.ownsRow_nil _ _ _ _,by simp,by simp⟩) hu;clear ho hu;have K0:=ap (ae.new w 45 (ja u));unfold ja at HM Qm K0 ⊢
 go_enter Tryz.func91,Tryz.ntmps91
 go_wp2_with first
  | (go_at_call 126;refine (HM.o _).mono ?_;rintro e w1 ⟨rfl,hb⟩;have k0:=K0.o.below hb (by simp);have Hb:=ap (mm (ay _ _) hb (Nat.le_refl _));clear hb;have q0:=fun o=>(k0.alloc o).cell 0;have q1:=fun o=>(k0.alloc o).cell 1;have q2:=fun o=>(k0.alloc o).cell 2;have q3:=fun o=>(k0.alloc o).cell 3;have q4:=fun o=>(k0.alloc o).cell 4;have q5:=fun o=>(k0.alloc o).cell 5;have q6:=fun o=>(k0.alloc o).cell 6;have q7:=fun o=>(k0.alloc o).cell 7;have q8:=k0.cell 0;clear k0)
  | (go_at_call 127;go_loud (refine (Qm.o _ _ rfl).mono ?_);rintro e w2 ⟨rfl,⟨Lb,A4,c4,vR,hW⟩,ht⟩;go_loud (have h6:¬(65536:Int)<Lb.length:=by omega);have W2:=ap hW;have p0:=hW.blk.cell 0;have iL:=ap ((Hb.o.alloc Hb.o.size _).trans (ht.below Hb.o.size Hb.o.size (Nat.le_trans Hb.o.size (by simp))));clear hW ht)
  | (with_reducible show wpList _ _ _ (⟨_,.convert 50 9 _,_,_,_,_⟩ :: _) _ _;refine nW rfl 50 9 5 (.tmp 22) rfl Tryz.underlying50 Tryz.underlying5 Tryz.underlying9 w1.heap.size (.slice A4 Lb.length c4) Lb.length rfl Lb W2.o.own ?_;intro t ht)
 go_ret2;exact⟨⟨t,rfl⟩,iL.o⟩
theorem ajF(u:ByteArray)(w:World):Calls Tryz.prog 62 #[.agg (ja u)] w fun e w'=>e=.returned (.bool (gX u))∧Below w.heap.size w w':=by
 have HM:=ap fun W=>ajD u W;unfold ja at HM ⊢;obtain⟨o,ho⟩:∃o,gX u=o:=⟨_,rfl⟩;rw[ho] at HM ⊢;clear ho;cases o
 all_goals
  go_enter Tryz.func62,Tryz.ntmps62
  go_wp2_with fail
  refine (HM.o _).mono ?_;rintro e w1 ⟨⟨s,rfl⟩,hb⟩;have HB:=ap (mm (ay _ _) hb (Nat.le_refl _));clear hb;simp only[if_true,reduceCtorEq,if_false];go_wp2;go_ret;exact⟨rfl,HB.o⟩
end
section
open Go.RowKit Rec
attribute [local go_sem ↓] Go.wp_at_zero Go.wp_at_succ

theorem yJ:∀a b:List UInt8,(Op.bytesLess a b||a==b) = !Op.bytesLess b a
 | [],[]=>rfl
 | [],_ :: _=>rfl
 | _ :: _,[]=>rfl
 | x :: a,y :: b=>by
  have ih:=yJ a b;unfold Op.bytesLess
  by_cases h1:x<y
  ·have h2:¬y<x:=fun h=>by rw[UInt8.lt_iff_toNat_lt] at h1 h;omega
   have h3:¬y=x:=fun h=>by subst h;exact h2 h1
   simp[h1,h2,h3]
  by_cases h2:y<x
  ·have h3:¬x=y:=fun h=>by subst h;exact h1 h2
   simp[h1,h2,h3]
  have h3:x=y:=by
   rw[UInt8.lt_iff_toNat_lt] at h1 h2;exact UInt8.toNat_inj.1 (by omega)
  subst h3
  simpa[h1] using ih

theorem ag1(A:Option Addr)(c:Nat)(l:List iM)(w:World)(hA:Reads w w.heap.size 8 A l.length (qm l))(hl:l.length≤1000000000)(hs:∀x∈l,∀k,k<5→(five x.e k).size≤1000000000) :
  Calls Tryz.prog 67 #[.slice A l.length c] w fun e w'=>e=.returned (.bool (rs mJ kid l&&decide (l.length≤32)))∧Below w.heap.size w w':=by
 obtain⟨n,hn⟩:∃n,l.length=n:=⟨_,rfl⟩;have HA:=ap hA;have HS:=ap hs;rw[hn] at hl ⊢;have Hn:=ap hn;clear hn hA hs
 go_enter Tryz.func67,Tryz.ntmps67
 go_wp2
 go_loopg [3] n (fun g vi wr=>∃k:Nat,g=n-k∧k≤n∧vi=.int .i64 k∧Up mJ kid l k∧Below w.heap.size w wr)
 case atStart=>exact⟨0,rfl,Nat.zero_le _,rfl,Up.zero,Below.refl _ _⟩
 case round=>
  obtain⟨k,hg,hk,rfl,hu,kb⟩:=hrel;have Hg:=ap hg;have Hu:=ap hu;have Kb:=ap kb;clear hg hu
  by_cases hlt:k<n
  ·have h1:k<l.length:=by rw[Hn.o];exact hlt
   obtain⟨b,off,rfl,hb,hx⟩:=(HA.o.below Kb.o).Ge h1;have h2:k-1<l.length:=by omega
   obtain⟨b',CC,e1,-,hy⟩:=(HA.o.below Kb.o).Ge h2;injection e1 with e1
   injection e1 with e1 e2 _
   subst e1 e2;have y0:=hy.c0;have V:=ap fun W=>ajX l[k].e W (HS.o _ (List.getElem_mem h1));have cz:=ap fun vI vJ=>Hu.o.next h1 vI vJ;have dt:=ap (Up.no (ok:=mJ) (ky:=kid) h1);simp only[mJ,kid,below] at cz dt;generalize l[k]=x at *
   generalize l[k-1]=y at *
   have HX:=ap hx;clear hx hy h1 h2;have j1:(0:Int)≤(k:Int)∧(k:Int)<(n:Int):=by omega
   obtain⟨lt,rG⟩:∃c,Op.bytesLess y.e.id.toList x.e.id.toList=c:=⟨_,rfl⟩;have wJ:=yJ x.e.id.toList y.e.id.toList;rw[rG] at cz dt wJ;have Ea:=ap wJ;obtain⟨kx,tS⟩:∃c,keeps x.e=c:=⟨_,rfl⟩;rw[tS] at cz dt V;clear rG tS wJ;unfold lx at V;go_wp2;refine wp_region_held_drew (S:=fun W=>Am W b (off+k*8) x∧W.cell? ⟨b,off+(k-1)*8,none⟩=some (.string y.e.id)∧Below w.heap.size w W) (by kernel_rfl) ⟨HX.o.keep fun _=>rfl,y0,Kb.o.drew⟩ (fun hHeld=>?_);change wpAnyH _ _ _ _ _ 27 (List.toArray [false,false,false,false,false,false,false,false,false,false,false,false,false,false,false,false,false,false,false,false,false,false,false,false,false,false,false]) _ _;iterate 5 (refine aJ (v:=?_) rfl rfl hHeld ?_ ?_;rotate_left;(· (intro w hSw;have q0:=hSw.1.c0;have q1:=hSw.1.c1;have q2:=hSw.1.c2;have q3:=hSw.1.c3;have q4:=hSw.1.c4;have q5:=hSw.1.c5;have q6:=hSw.1.c6;have q7:=hSw.2.1;go_simp;try with_reducible rfl));(try simp only[nx,List.set]))
   refine fU (i:=5) rfl (by kernel_rfl) (by kernel_rfl) (fun K hK=>?_);go_simp;refine (V.o _).mono ?_;rintro e w' ⟨rfl,hb⟩;(try dsimp only);refine hK.out _ _ ⟨hHeld.1.keep fun i=>hb.cell (show b<_ from J3 hHeld.2.1),ox hb hHeld.2.1,mm hHeld.2.2 hb (Nat.le_refl _)⟩ (fun aL=>?_);clear hK K hHeld;have hHeld:=aL;clear aL hb HX V y0;(try simp only[Act.put,List.setIfInBounds_toArray,List.set_cons_zero,List.set_cons_succ])
   cases kx with
   | false=>
    iterate 2 (refine aJ (v:=?_) rfl rfl hHeld ?_ ?_;rotate_left;(· (intro w hSw;have q0:=hSw.1.c0;have q1:=hSw.1.c1;have q2:=hSw.1.c2;have q3:=hSw.1.c3;have q4:=hSw.1.c4;have q5:=hSw.1.c5;have q6:=hSw.1.c6;have q7:=hSw.2.1;go_simp;try with_reducible rfl));(try simp only[nx,List.set]))
    iterate 18 (refine mM rfl rfl hHeld ?_;(try simp only[nx,List.set]))
    (refine aJ (v:=?_) rfl rfl hHeld ?_ ?_;rotate_left;(· (intro w hSw;have q0:=hSw.1.c0;have q1:=hSw.1.c1;have q2:=hSw.1.c2;have q3:=hSw.1.c3;have q4:=hSw.1.c4;have q5:=hSw.1.c5;have q6:=hSw.1.c6;have q7:=hSw.2.1;go_simp;try with_reducible rfl));(try simp only[nx,List.set]));refine wpAnyH_done (by kernel_rfl) ?_ _;have B:=ap hHeld.2.2;clear hHeld;go_wp2;go_ret;exact⟨aC (aR (by rw[dt.o (fun h=>by cases h)];rfl)),B.o⟩
   | true=>
    by_cases h0:0<k
    ·have i0:(0:Int)<(k:Int):=by omega
     have iw:IntKind.i64.wrap ((k:Int)-1)=(k:Int)-1:=IntWalk.i64_in _ (by omega);have i1:(0:Int)≤(k:Int)-1∧(k:Int)-1<(n:Int):=by omega
     have i2:((k:Int)-1).toNat=k-1:=by omega
     have i4:(1:Int)≤(k:Int):=by omega
     iterate 21 (refine aJ (v:=?_) rfl rfl hHeld ?_ ?_;rotate_left;(· (intro w hSw;have q0:=hSw.1.c0;have q1:=hSw.1.c1;have q2:=hSw.1.c2;have q3:=hSw.1.c3;have q4:=hSw.1.c4;have q5:=hSw.1.c5;have q6:=hSw.1.c6;have q7:=hSw.2.1;go_simp;try with_reducible rfl));(try simp only[nx,List.set]))
     refine wpAnyH_done (by kernel_rfl) ?_ _;have B:=ap hHeld.2.2;clear hHeld;rw[Ea.o];cases lt
     ·go_wp2;go_ret;exact⟨aC (aR (by rw[dt.o (fun _=>⟨h0,by trivial⟩)];rfl)),B.o⟩
     go_wp2
     go_roundg (n-(k+1))
     case measure=>have:=Hg.o;omega
     case rel=>exact⟨k+1,rfl,by omega,by go_num,cz.o (by trivial) fun _=>by trivial,B.o⟩
    have i0:¬(0:Int)<(k:Int):=by omega
    iterate 5 (refine aJ (v:=?_) rfl rfl hHeld ?_ ?_;rotate_left;(· (intro w hSw;have q0:=hSw.1.c0;have q1:=hSw.1.c1;have q2:=hSw.1.c2;have q3:=hSw.1.c3;have q4:=hSw.1.c4;have q5:=hSw.1.c5;have q6:=hSw.1.c6;have q7:=hSw.2.1;go_simp;try with_reducible rfl));(try simp only[nx,List.set]))
    iterate 14 (refine mM rfl rfl hHeld ?_;(try simp only[nx,List.set]))
    iterate 2 (refine aJ (v:=?_) rfl rfl hHeld ?_ ?_;rotate_left;(· (intro w hSw;have q0:=hSw.1.c0;have q1:=hSw.1.c1;have q2:=hSw.1.c2;have q3:=hSw.1.c3;have q4:=hSw.1.c4;have q5:=hSw.1.c5;have q6:=hSw.1.c6;have q7:=hSw.2.1;go_simp;try with_reducible rfl));(try simp only[nx,List.set]))
    refine wpAnyH_done (by kernel_rfl) ?_ _;have B:=ap hHeld.2.2;clear hHeld;go_wp2
    go_roundg (n-(k+1))
    case measure=>have:=Hg.o;omega
    case rel=>exact⟨k+1,rfl,by omega,by go_num,cz.o (by trivial) fun h=>absurd h h0,B.o⟩
  go_wp2;go_ret;exact⟨aC (aR (by rw[Hu.o.all (by rw[Hn.o];omega),Bool.true_and,decide_eq_decide];omega)),Kb.o⟩
theorem ahJ(x:Sb)(w:World)(hA:Reads w w.heap.size 8 x.A x.ks.length (qm x.ks))(hl:x.ks.length≤1000000000)(hs:∀y∈x.ks,∀k,k<5→(five y.e k).size≤1000000000) :
  Calls Tryz.prog 43 #[.agg #[.string x.u,.slice x.A x.ks.length x.c]] w fun e w'=>e=.returned (.bool (okS x))∧Below w.heap.size w w':=by
 have HK:=ap fun (W:World) (hb:Below w.heap.size w W)=>ag1 x.A x.c x.ks W ((hA.below hb).more hb.size) hl hs;have HU:=ap fun W=>akf x.u W;unfold okS;generalize x.ks.length=n at *
 generalize (rs mJ kid x.ks&&decide (n≤32))=r at *
 obtain⟨o,ho⟩:∃r,gX x.u=r:=⟨_,rfl⟩;rw[ho] at HU ⊢;clear hA hl hs ho;cases o
 all_goals
  go_enter Tryz.func43,Tryz.ntmps43
  go_wp2_with first | (go_at_call 66;refine (HU.o _).mono ?_;rintro e w' ⟨rfl,rfl⟩) | (go_at_call 67;refine (HK.o _ (ay _ _)).mono ?_;rintro e w' ⟨rfl,hb⟩)
  go_ret;exact⟨rfl,by first|exact ay _ _|exact (ay _ _).trans (hb.mono (by simp))⟩
end
end Go.Proofs.YtpdkeckeekchlaaGreatDoor
