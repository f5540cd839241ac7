/- A part of the proof: ReachM, WBlkB, WBlkX, WReach, WReach2. -/
import Derived.Test.YthblbddmcdnllaaGreatDoorX12
import Derived.Test.YthblbddmcdnllaaGreatDoorX20
import Derived.Test.YthblbddmcdnllaaGreatDoorX1
import Derived.Deep.Onto
import Derived.Test.YthblbddmcdnllaaGreatDoorX16
import Derived.Test.YthblbddmcdnllaaGreatDoorY1
set_option maxHeartbeats 6400000
set_option linter.unusedVariables false
set_option linter.unusedSimpArgs false
namespace Go.Proofs.YthblbddmcdnllaaGreatDoor
section
open Go.RowKit
def RS (w:World) (S:Nat→Prop) (a x rf base g:Nat) (l:List Int) (bs:List UInt8):Prop :=
 AL w x #[.pointer (some ⟨a,0,none⟩),.pointer (some ⟨rf,0,none⟩)] 118∧FU w rf base g l∧Am w S a bs∧(∀ b,S b→b<w.heap.size∧b≠g)∧x≠g
section
variable {w w':World} {S:Nat→Prop} {a x rf base g:Nat} {l l':List Int} {bs:List UInt8}
theorem RS.step (h:RS w S a x rf base g l bs) (hr:FU w' rf base g l') (hT:Touch (fun y=>y=g) w w'):RS w' S a x rf base g l' bs:=by
 obtain ⟨h1,h2,h3,h4,h5⟩:=h
 exact ⟨(hT.block h1.lt h5).trans h1,hr,h3.keep (fun _ h=>h) (Ap hT (fun b hb=>⟨(h4 b hb).1,(h4 b hb).2⟩)),fun b hb=>⟨Nat.lt_of_lt_of_le (h4 b hb).1 hT.size,(h4 b hb).2⟩,h5⟩
theorem RS.below (h:RS w S a x rf base g l bs) (hB:Below w.heap.size w w'):RS w' S a x rf base g l bs:=h.step (h.2.1.below hB) (Touch.of_below hB)
theorem RS.im (h:RS w S a x rf base g l bs):w.cell? ⟨x,0,none⟩=some (.pointer (some ⟨a,0,none⟩)):=h.1.at 0 _ rfl
theorem RS.wm (h:RS w S a x rf base g l bs):w.cell? ⟨x,1,none⟩=some (.pointer (some ⟨rf,0,none⟩)):=h.1.at 1 _ rfl
theorem RS.lt (h:RS w S a x rf base g l bs):∀ b,S b→b<w.heap.size:=fun b hb=>(h.2.2.2.1 b hb).1
end
end
section
open Go.RowKit
attribute [local go_sem] Oper.semAt_some
theorem opened {w:World} {bs:List UInt8} {k c3:Nat} {kind:Int} {A3:Option Addr} {base:Nat} (hk:k*256+256≤bs.length) (hE:DD (Ct bs k) kind k=0) (ho:w.ownsRow base 5 1 (.slice A3 256 c3) 256 (AA AX (Ct bs k))) :
 Calls Tryz.prog 87 #[.slice A3 256 c3,.int .i64 kind,.int .i64 (k:Int)] w fun e w'=>(∃ A c,e=.returned (.tuple #[.slice A 244 c,.int .i64 0])∧AU w' (fun b=>b<w'.heap.size) (.slice A 244 c) (AO bs k))∧Below w.heap.size w w':=by
 have hlb:(Ct bs k).length=256:=Hr hk
 have hb:AU w (fun b=>b<w.heap.size) (.slice A3 256 c3) (Ct bs k):=(Bp.own (enc:=AX) (d:=(0:UInt8)) DY ho (by omega)).sub (S':=fun b=>b<w.heap.size) (AB _) (fun b hb=>hb.2)
 refine (GY w _ _ (Ct bs k) kind (k:Int) (fun _ h=>h) hb (by omega)).mono ?_
 rintro e w' ⟨⟨v',rfl,hv⟩,hB⟩
 unfold CG at hv
 rw [if_pos hE] at hv
 have hv2:=hv.sub (S':=fun b=>b<w'.heap.size) (AB _) (fun b hb=>hb.2)
 rw [show FT (Ct bs k)=AO bs k from rfl] at hv2
 have hbl:(AO bs k).length=244:=Dz hlb
 obtain ⟨A,c,rfl,hc,hr⟩:=hv2
 rw [hE]
 rw [hbl]
 exact ⟨⟨A,c,rfl,A,c,by rw [hbl],hc,hr⟩,hB⟩
set_option maxRecDepth 100000 in
theorem Ro (w:World) (S:Nat→Prop) (a k:Nat) (bs:List UInt8) (hS:∀ b,S b→b<w.heap.size) (h:Am w S a bs) (hl:bs.length≤140737488355328) (hk:k*256+256≤bs.length) (hE:DD (Ct bs k) 3 k=0) (hc:AC (AO bs k) 0 4≤960) (hz:∀ i,i<960→AC (AO bs k) 0 4≤i→RI (AO bs k) i=0) :
 Calls Tryz.prog 180 #[.pointer (some ⟨a,0,none⟩),.int .i64 (k:Int),.int .i64 3,.func (.func 181) #[] #[]] w fun e w'=>(∃ A c,e=.returned (.tuple #[.slice A (AC (AO bs k) 0 4) c,.nilIface])∧w'.ownsRow w.heap.size 3 1 (.slice A (AC (AO bs k) 0 4) c) (AC (AO bs k) 0 4) (AA encI (bitsOf (AO bs k))))∧Below w.heap.size w w':=by
 have NI:=qh (Kl w S a k bs hS h hl hk)
 have dA:=qh (fun (w3:World) A3 c3 ho=>opened (w:=w3) (A3:=A3) (c3:=c3) (base:=w.heap.size) hk hE ho)
 have hbl:(AO bs k).length=244:=Dz (Hr hk)
 have rE:=qh (fun (w4:World) v hv=>PY w4 (fun b=>b<w4.heap.size) v (AO bs k) (fun _ h=>h) hv hbl hc hz)
 clear h hE hz hbl
 generalize AC (AO bs k) 0 4=n at *
 generalize bitsOf (AO bs k)=bl at *
 have hcn:=qh hc
 clear hc
 go_enter Tryz.func180,Tryz.ntmps180
 go_upto_region 5 with (go_at_call 86;(with_reducible refine NI.out.mono ?_);rintro e w3 ⟨A3,c3,rfl,hown3,hB3⟩;have rF:=qh (dA.out w3 A3 c3 hown3);have HB3:=qh hB3;clear hown3 hB3)
 go_upto_region 8 with (go_at_call 87;(with_reducible refine rF.out.mono ?_);rintro e w4 ⟨⟨A4,c4,rfl,hv4⟩,hB4⟩;have rG:=qh (rE.out w4 _ hv4);have EQ:=qh hB4;clear hv4 hB4)
 go_wp2_with (go_at_call 181;go_loud (with_reducible refine rG.out.mono ?_);go_loud (rintro e w5 ⟨⟨A5,c5,rfl,IW⟩,BX⟩);go_loud (have KR:=qh (IW.mono (Nat.le_trans HB3.out.size EQ.out.size)));clear IW)
 go_ret2
 exact ⟨⟨A5,c5,rfl,KR.out⟩,HB3.out.trans (((EQ.out).trans (BX.mono EQ.out.size)).mono HB3.out.size)⟩
end
section
open Go.RowKit
attribute [local go_sem] Oper.semAt_some
set_option maxRecDepth 100000 in
theorem Uk (w:World) (S:Nat→Prop) (a k:Nat) (bs s1:List UInt8) (d0 d1 d2:Int) (hS:∀ b,S b→b<w.heap.size) (h:Am w S a bs) (hl:bs.length≤140737488355328) (hk:k*256+256≤bs.length) (hE:DD (Ct bs k) 4 k=0) (hc:AC (AO bs k) 0 4=1) (hz:DZ (BF (AO bs k) 20 224)=true) (hx:(BJ (BF (AO bs k) 4 240)).extract 0 16=BJ s1) (h1:s1.length=16) (hv:Dm EX s1=([d0,d1,d2],0)) :
 Calls Tryz.prog 178 #[.pointer (some ⟨a,0,none⟩),.int .i64 (k:Int),.int .i64 4,.func (.func 179) #[] #[]] w fun e w'=>(∃ A c,e=.returned (.tuple #[.slice A 1 c,.nilIface])∧w'.ownsRow w.heap.size 153 3 (.slice A 1 c) 1 [.int .i64 d0,.int .i64 d1,.int .i64 d2])∧Below w.heap.size w w':=by
 have NI:=qh (Kl w S a k bs hS h hl hk)
 have dA:=qh (fun (w3:World) A3 c3 ho=>opened (w:=w3) (A3:=A3) (c3:=c3) (base:=w.heap.size) hk hE ho)
 have hbl:(AO bs k).length=244:=Dz (Hr hk)
 have rE:=qh (fun (w4:World) v hv'=>RZ w4 (fun b=>b<w4.heap.size) v (AO bs k) s1 d0 d1 d2 (fun _ h=>h) hv' hbl hc hz hx h1 hv)
 clear h hE hz hbl hx hv hc
 go_enter Tryz.func178,Tryz.ntmps178
 go_upto_region 5 with (go_at_call 86;(with_reducible refine NI.out.mono ?_);rintro e w3 ⟨A3,c3,rfl,hown3,hB3⟩;have rF:=qh (dA.out w3 A3 c3 hown3);have HB3:=qh hB3;clear hown3 hB3)
 go_upto_region 8 with (go_at_call 87;(with_reducible refine rF.out.mono ?_);rintro e w4 ⟨⟨A4,c4,rfl,hv4⟩,hB4⟩;have rG:=qh (rE.out w4 _ hv4);have EQ:=qh hB4;clear hv4 hB4)
 go_wp2_with (go_at_call 179;(with_reducible refine rG.out.mono ?_);rintro e w5 ⟨⟨A5,c5,rfl,IW⟩,BX⟩;have KR:=qh (IW.mono (Nat.le_trans HB3.out.size EQ.out.size));clear IW)
 go_ret2
 exact ⟨⟨A5,c5,rfl,KR.out⟩,HB3.out.trans (((EQ.out).trans (BX.mono EQ.out.size)).mono HB3.out.size)⟩
end
section
open Go.RowKit
attribute [local go_sem] Oper.semAt_some
def Dv (bs:List UInt8) (no t:Int):Prop:=Al bs no t=0∧(nodeAt bs no).vals.length=0∧(nodeAt bs no).keys.length=0
def Ga (bs:List UInt8) (k:Nat):Prop:=k*256+256≤bs.length∧DD (Ct bs k) 3 k=0∧AC (AO bs k) 0 4≤960∧∀ i,i<960→AC (AO bs k) 0 4≤i→RI (AO bs k) i=0
def Lh (bs:List UInt8) (k:Nat) (d0 d1 d2:Int):Prop:=k*256+256≤bs.length∧DD (Ct bs k) 4 k=0∧AC (AO bs k) 0 4=1∧DZ (BF (AO bs k) 20 224)=true∧∃ s1:List UInt8,(BJ (BF (AO bs k) 4 240)).extract 0 16=BJ s1∧s1.length=16∧Dm EX s1=([d0,d1,d2],0)
section
variable {w:World} {S:Nat→Prop} {a:Nat} {bs:List UInt8}
theorem NT (k:Nat) (hS:∀ b,S b→b<w.heap.size) (h:Am w S a bs) (hl:bs.length≤140737488355328) (hb:Ga bs k) :
 Calls Tryz.prog 153 #[.pointer (some ⟨a,0,none⟩),.int .i64 (k:Int)] w fun e w'=>(∃ A c,e=.returned (.tuple #[.slice A (AC (AO bs k) 0 4) c,.nilIface])∧w'.ownsRow w.heap.size 3 1 (.slice A (AC (AO bs k) 0 4) c) (AC (AO bs k) 0 4) (AA encI (bitsOf (AO bs k))))∧Below w.heap.size w w':=by
 have H:=qh (Ro w S a k bs hS h hl hb.1 hb.2.1 hb.2.2.1 hb.2.2.2)
 clear h hb
 generalize AC (AO bs k) 0 4=n at *
 go_enter Tryz.func153,Tryz.ntmps153
 go_wp2_with (go_at_call 180;(with_reducible refine H.out.mono ?_);rintro e w2 ⟨⟨A5,c5,rfl,IW⟩,BX⟩)
 go_ret2
 exact ⟨⟨A5,c5,rfl,IW⟩,BX⟩
theorem Li (k:Nat) (d0 d1 d2:Int) (hS:∀ b,S b→b<w.heap.size) (h:Am w S a bs) (hl:bs.length≤140737488355328) (hb:Lh bs k d0 d1 d2) :
 Calls Tryz.prog 150 #[.pointer (some ⟨a,0,none⟩),.int .i64 (k:Int)] w fun e w'=>(∃ A c,e=.returned (.tuple #[.slice A 1 c,.nilIface])∧w'.ownsRow w.heap.size 153 3 (.slice A 1 c) 1 [.int .i64 d0,.int .i64 d1,.int .i64 d2])∧Below w.heap.size w w':=by
 obtain ⟨h1,h2,h3,h4,s1,h5,h6,h7⟩:=hb
 have H:=qh (Uk w S a k bs s1 d0 d1 d2 hS h hl h1 h2 h3 h4 h5 h6 h7)
 clear h h2 h3 h4 h5 h6 h7
 go_enter Tryz.func150,Tryz.ntmps150
 go_wp2_with (go_at_call 178;(with_reducible refine H.out.mono ?_);rintro e w2 ⟨⟨A5,c5,rfl,IW⟩,BX⟩)
 go_ret2
 exact ⟨⟨A5,c5,rfl,IW⟩,BX⟩
theorem P7 {no t:Int} (hS:∀ b,S b→b<w.heap.size) (h:Am w S a bs) (hl:bs.length≤140737488355328) (hn:Dv bs no t) :
 Calls Tryz.prog 52 #[.pointer (some ⟨a,0,none⟩),.int .i64 no,.int .i64 t] w fun e w'=>(∃ Ak ck Av cv,e=.returned (.tuple #[.agg #[.int .i64 (nodeAt bs no).tree,.bool (nodeAt bs no).leaf,.slice Ak 0 ck,.slice Av 0 cv],.nilIface]))∧Below w.heap.size w w':=by
 obtain ⟨hn,hv,hk⟩:=hn
 refine (Fj w S a bs no t hS h hl).mono ?_
 rintro e w' ⟨hr,hB⟩
 obtain ⟨v,ev,rfl,hx,he⟩:=hr
 rw [if_pos hn] at hx
 unfold Bf at he
 rw [if_pos hn] at he
 subst he
 obtain ⟨kv,vv,rfl,⟨Ak,ck,rfl,-,-⟩,⟨Av,cv,rfl,-,-⟩⟩:=hx
 rw [hk,hv]
 exact ⟨⟨Ak,ck,Av,cv,rfl⟩,hB⟩
end
section
variable {w:World} {S:Nat→Prop} {a x rf base g:Nat} {l:List Int} {bs:List UInt8}
set_option maxRecDepth 100000 in
theorem Yp (no:Int) (t:Nat) (h:RS w S a x rf base g l bs) (hl:bs.length≤140737488355328) (hn:Dv bs no t) :
 Calls Tryz.prog 92 #[.pointer (some ⟨x,0,none⟩),.int .i64 no,.int .i64 (t:Int)] w fun e w'=>e=.returned .nilIface∧Below w.heap.size w w':=by
 have HN:=qh (P7 (t:=t) h.lt h.2.2.1 hl hn)
 have x0:=h.im
 have b1:(((t:Int)) == -1)=false:=by rw [beq_eq_false_iff_ne];omega
 have b2:(((t:Int)) == -2)=false:=by rw [beq_eq_false_iff_ne];omega
 clear h hn
 go_enter Tryz.func92,Tryz.ntmps92
 go_upto_region 9 with (go_at_call 52;(with_reducible refine HN.out.mono ?_);rintro e w2 ⟨⟨Ak,ck,Av,cv,rfl⟩,hB⟩;have HB2:=qh hB;clear hB)
 have hb3:=AL.new w2 #[.int .i64 (nodeAt bs no).tree,.bool (nodeAt bs no).leaf,.slice Ak 0 ck,.slice Av 0 cv] 125
 have hB3:Below w2.heap.size w2 (w2.alloc (.cells #[.int .i64 (nodeAt bs no).tree,.bool (nodeAt bs no).leaf,.slice Ak 0 ck,.slice Av 0 cv] 125)):=(Below.refl _ _).alloc (Nat.le_refl _) _
 generalize w2.alloc (.cells #[.int .i64 (nodeAt bs no).tree,.bool (nodeAt bs no).leaf,.slice Ak 0 ck,.slice Av 0 cv] 125)=w3 at *
 have x3:w3.cell? ⟨w2.heap.size,3,none⟩=some (.slice Av 0 cv):=hb3.at 3 _ rfl
 have HBE:=qh (HB2.out.trans (hB3.mono HB2.out.size))
 clear x0 hb3 hB3
 go_wp2_with fail
 refine wp_loop_rounds 1 ?_
 rw [rounds_succ]
 go_wp2_with fail
 go_ret
 exact ⟨rfl,HBE.out⟩
set_option maxRecDepth 100000 in
theorem Yq (k:Nat) (h:RS w S a x rf base g l bs) (hl:bs.length≤140737488355328) (hn:Ga bs k) :
 Calls Tryz.prog 92 #[.pointer (some ⟨x,0,none⟩),.int .i64 (k:Int),.int .i64 (-2)] w fun e w'=>e=.returned .nilIface∧Below w.heap.size w w':=by
 have HN:=qh (NT k h.lt h.2.2.1 hl hn)
 have x0:=h.im
 clear h hn
 generalize AC (AO bs k) 0 4=n at *
 go_enter Tryz.func92,Tryz.ntmps92
 go_wp2_with (go_at_call 153;(with_reducible refine HN.out.mono ?_);rintro e w2 ⟨⟨A5,c5,rfl,-⟩,hB⟩)
 go_ret
 exact ⟨rfl,hB⟩
theorem Dw (no:Nat) (kd:Int) (l':List Int) (h:RS w S a x rf base g l bs) (hno:no<l.length) (hl:l.length≤65536) (h0:nth 0 l no=0)
 (hhas:∀ w1,RS w1 S a x rf base g (bump l no) bs→Calls Tryz.prog 92 #[.pointer (some ⟨x,0,none⟩),.int .i64 (no:Int),.int .i64 kd] w1 fun e w'=>e=.returned .nilIface∧RS w' S a x rf base g l' bs∧Touch (fun y=>y=g) w1 w') :
 Calls Tryz.prog 50 #[.pointer (some ⟨x,0,none⟩),.int .i64 (no:Int),.int .i64 kd] w fun e w'=>e=.returned .nilIface∧RS w' S a x rf base g l' bs∧Touch (fun y=>y=g) w w':=by
 have had:=Hf w rf base g l no h.2.1 (by omega) (by omega) hl (by rw [Int.toNat_natCast,h0];omega)
 rw [Int.toNat_natCast,h0] at had
 have HA:Hid (Calls Tryz.prog 49 #[.pointer (some ⟨rf,0,none⟩),.int .i64 (no:Int)] w fun e w'=>e=.returned (.tuple #[.int .i64 1,.int .i64 0])∧w'=w.setCell ⟨g,no,none⟩ (.int .i64 1)∧FU w' rf base g (bump l no)):=had
 have HH:=qh hhas
 have HR:=qh h
 have x1:=h.wm
 clear had hhas h
 go_enter Tryz.func50,Tryz.ntmps50
 go_upto_region 6 with (go_at_call 49;(with_reducible refine HA.out.mono ?_);rintro e w2 ⟨rfl,hw2,hr⟩;have HW2:=qh hw2;have HR2:=qh hr;clear hw2 hr)
 have Ko:Touch (fun y=>y=g) w w2:=by rw [HW2.out];exact Touch.BZ (R:=fun y=>y=g) (p:=⟨g,no,none⟩) rfl
 have HHH:=qh (HH.out w2 (HR.out.step HR2.out Ko))
 have HT2:=qh Ko
 clear Ko x1
 go_wp2_with (go_at_call 92;(with_reducible refine HHH.out.mono ?_);rintro e w3 ⟨rfl,hr3,TS⟩)
 go_ret
 exact ⟨rfl,hr3,HT2.out.trans TS⟩
end
end
section
open Go.RowKit
attribute [local go_sem] Oper.semAt_some
section
variable {w:World} {S:Nat→Prop} {a x rf base g:Nat} {l l':List Int} {bs:List UInt8}
set_option maxRecDepth 100000 in
theorem dD (k gs c:Nat) (d1 d2:Int) (h:RS w S a x rf base g l bs) (c0:w.cell? ⟨gs,0,none⟩=some (.int .i64 (k:Int))) (c1:w.cell? ⟨gs,1,none⟩=some (.int .i64 d1)) (c2:w.cell? ⟨gs,2,none⟩=some (.int .i64 d2))
 (hh:∀ w1,RS w1 S a x rf base g l bs→Calls Tryz.prog 50 #[.pointer (some ⟨x,0,none⟩),.int .i64 (k:Int),.int .i64 (-2)] w1 fun e w'=>e=.returned .nilIface∧RS w' S a x rf base g l' bs∧Touch (fun y=>y=g) w1 w') :
 Calls Tryz.prog 152 #[.pointer (some ⟨x,0,none⟩),.slice (some ⟨gs,0,none⟩) 1 c] w fun e w'=>e=.returned .nilIface∧RS w' S a x rf base g l' bs∧Touch (fun y=>y=g) w w':=by
 have HH:=qh hh
 have HR:=qh h
 clear hh h
 go_enter Tryz.func152,Tryz.ntmps152
 go_wp2_with fail
 refine wp_loop_rounds 2 ?_
 rw [rounds_succ]
 go_upto_region 4 with fail
 have hb2:=AL.new w #[.int .i64 (k:Int),.int .i64 d1,.int .i64 d2] 153
 have hB2:Below w.heap.size w (w.alloc (.cells #[.int .i64 (k:Int),.int .i64 d1,.int .i64 d2] 153)):=(Below.refl _ _).alloc (Nat.le_refl _) _
 generalize w.alloc (.cells #[.int .i64 (k:Int),.int .i64 d1,.int .i64 d2] 153)=w2 at *
 have x0:w2.cell? ⟨w.heap.size,0,none⟩=some (.int .i64 (k:Int)):=hb2.at 0 _ rfl
 have HR2:=qh (HH.out w2 (HR.out.below hB2))
 have HB2:=qh hB2
 clear hb2 hB2 c0 c1 c2
 go_wp2_with (go_at_call 50;(with_reducible refine HR2.out.mono ?_);rintro e w3 ⟨rfl,hr3,TS⟩)
 rw [rounds_succ]
 go_wp2_with fail
 go_ret
 exact ⟨rfl,hr3,(Touch.of_below HB2.out).trans TS⟩
theorem Wn (w:World) (gn c:Nat) (h0:w.cell? ⟨gn,0,none⟩=some .nilIface) (h1:w.cell? ⟨gn,1,none⟩=some .nilIface) :
 Calls Tryz.prog 151 #[.slice (some ⟨gn,0,none⟩) 2 c] w fun e w'=>e=.returned .nilIface∧w'=w:=by
 go_enter Tryz.func151,Tryz.ntmps151
 go_wp2
 refine wp_loop_rounds 3 ?_
 rw [rounds_succ]
 go_wp2
 rw [rounds_succ]
 go_wp2
 rw [rounds_succ]
 go_wp2
 go_ret
 exact ⟨rfl,rfl⟩
set_option maxRecDepth 100000 in
theorem Wo (k k2:Nat) (d1 d2:Int) (h:RS w S a x rf base g l bs) (hl:bs.length≤140737488355328) (hn:Lh bs k k2 d1 d2)
 (hh:∀ w1,RS w1 S a x rf base g l bs→Calls Tryz.prog 50 #[.pointer (some ⟨x,0,none⟩),.int .i64 (k2:Int),.int .i64 (-2)] w1 fun e w'=>e=.returned .nilIface∧RS w' S a x rf base g l' bs∧Touch (fun y=>y=g) w1 w') :
 Calls Tryz.prog 92 #[.pointer (some ⟨x,0,none⟩),.int .i64 (k:Int),.int .i64 (-1)] w fun e w'=>e=.returned .nilIface∧RS w' S a x rf base g l' bs∧Touch (fun y=>y=g) w w':=by
 have HN:=qh (Li k k2 d1 d2 h.lt h.2.2.1 hl hn)
 have HR:=qh h
 have HH:=qh hh
 have x0:=h.im
 have HF:=qh (fun w' gn c h0 h1=>Wn w' gn c h0 h1)
 clear h hn hh
 go_enter Tryz.func92,Tryz.ntmps92
 go_upto_region 4 with (go_at_call 150;(with_reducible refine HN.out.mono ?_);rintro e w2 ⟨⟨A5,c5,rfl,IW⟩,hB⟩;obtain ⟨gs,hA,-,-,hs⟩:=BS IW (by omega);subst hA;have HS:=qh hs;have HB2:=qh hB;clear IW hs hB)
 have Ke:=qh (dD (l':=l') k2 gs c5 d1 d2 (HR.out.below HB2.out) (HS.out 0 _ rfl) (HS.out 1 _ rfl) (HS.out 2 _ rfl) HH.out)
 clear x0
 go_wp2_with (first
  | (go_at_call 152;(with_reducible refine Ke.out.mono ?_);rintro e w3 ⟨rfl,hr3,TS⟩;have HR3:=qh hr3;have HT3:=qh TS;clear hr3 TS)
  | (go_at_call 151;(with_reducible refine (HF.out _ _ _ (by go_simp) (by go_simp)).mono ?_);rintro e w4 ⟨rfl,hw4⟩;rw [hw4];clear hw4 w4))
 have wo:Below w3.heap.size w3 (w3.alloc (.cells #[.nilIface,.nilIface] 27)):=(Below.refl _ _).alloc (Nat.le_refl _) _
 generalize w3.alloc (.cells #[.nilIface,.nilIface] 27)=w4 at *
 go_ret
 exact ⟨rfl,HR3.out.below wo,((Touch.of_below HB2.out).trans HT3.out).trans (Touch.of_below wo)⟩
end
def dE (i:Nat):Nat:=match i with|0=>1|1=>2|2=>3|3=>4|4=>7|_=>5
def dF (i:Nat):Int:=match i with|0=>1|1=>3|2=>4|3=>5|4 => -1|_=>5
def Dr (i:Nat):List Int:=match i with|0=>[1,0,0,0,0,0,0,0]|1=>[1,1,0,0,0,0,0,0]|2=>[1,1,1,0,0,0,0,0]|3=>[1,1,1,1,0,0,0,0]|4=>[1,1,1,1,1,0,0,0]|5=>[1,1,1,1,1,0,1,1]|_=>[1,1,1,1,1,1,1,1]
def Rp (bs:List UInt8):Prop:=Dv bs 1 1∧Dv bs 2 3∧Dv bs 3 4∧Dv bs 4 5∧(∃ d1 d2,Lh bs 7 6 d1 d2)∧Ga bs 6∧Dv bs 5 5
theorem dG {w:World} {S:Nat→Prop} {a x rf base g:Nat} {bs:List UInt8} (hl:bs.length≤140737488355328) (hok:Rp bs) (i:Nat) (hi:i<6) (h:RS w S a x rf base g (Dr i) bs) :
 Calls Tryz.prog 50 #[.pointer (some ⟨x,0,none⟩),.int .i64 (dE i:Int),.int .i64 (dF i)] w fun e w'=>e=.returned .nilIface∧RS w' S a x rf base g (Dr (i+1)) bs∧Touch (fun y=>y=g) w w':=by
 obtain ⟨h1,h2,h3,h4,⟨d1,d2,h7⟩,h6,h5⟩:=hok
 have hlf:∀ (no t:Nat) (l:List Int),Dv bs no t→∀ w1,RS w1 S a x rf base g l bs→Calls Tryz.prog 92 #[.pointer (some ⟨x,0,none⟩),.int .i64 (no:Int),.int .i64 (t:Int)] w1 fun e w'=>e=.returned .nilIface∧RS w' S a x rf base g l bs∧Touch (fun y=>y=g) w1 w':=fun no t l ho w1 hr =>
  (Yp (no:Int) t hr hl ho).mono fun e w' ⟨he,hB⟩=>⟨he,hr.below hB,Touch.of_below hB⟩
 have hlen:∀ i,(Dr i).length=8:=fun i=>by unfold Dr;split <;> rfl
 rcases (show i=0∨i=1∨i=2∨i=3∨i=4∨i=5 by omega) with rfl|rfl|rfl|rfl|rfl|rfl
 · exact Dw 1 1 (Dr 1) h (by decide) (by decide) rfl (fun w1 hr=>hlf 1 1 _ h1 w1 hr)
 · exact Dw 2 3 (Dr 2) h (by decide) (by decide) rfl (fun w1 hr=>hlf 2 3 _ h2 w1 hr)
 · exact Dw 3 4 (Dr 3) h (by decide) (by decide) rfl (fun w1 hr=>hlf 3 4 _ h3 w1 hr)
 · exact Dw 4 5 (Dr 4) h (by decide) (by decide) rfl (fun w1 hr=>hlf 4 5 _ h4 w1 hr)
 · refine Dw 7 (-1) (Dr 5) h (by decide) (by decide) rfl (fun w1 hr=>Wo (l':=Dr 5) 7 6 d1 d2 hr hl h7 (fun w2 hr2=>?_))
   exact Dw 6 (-2) (Dr 5) hr2 (by decide) (by decide) rfl (fun w3 hr3=>(Yq 6 hr3 hl h6).mono fun e w' ⟨he,hB⟩=>⟨he,hr3.below hB,Touch.of_below hB⟩)
 · exact Dw 5 5 (Dr 6) h (by decide) (by decide) rfl (fun w1 hr=>hlf 5 5 _ h5 w1 hr)
end
end Go.Proofs.YthblbddmcdnllaaGreatDoor
