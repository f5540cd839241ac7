/- A part of the proof: WReach3, WStat1, WStat2. -/
import Derived.Test.YthblbddmcdnllaaGreatDoorX21
import Derived.Test.YthblbddmcdnllaaGreatDoorX14
import Derived.Test.YthblbddmcdnllaaGreatDoorX19
import Derived.Test.YthblbddmcdnllaaGreatDoorX9
import Derived.Test.YthblbddmcdnllaaGreatDoorY1
import Derived.Test.YthblbddmcdnllaaGreatDoorX22
import Derived.RegionTactic
import Derived.BigRegion
set_option maxHeartbeats 6400000
set_option linter.unusedVariables false
set_option linter.unusedSimpArgs false
namespace Go.Proofs.YthblbddmcdnllaaGreatDoor
section
open Go.RowKit
attribute [local go_sem] Oper.semAt_some
def JX:Value:=.agg #[.int .i64 0,.int .i64 0,.int .i64 1,.int .i64 0,.int .i64 8,.int .i64 1,.int .i64 2,.int .i64 3,.int .i64 4,.int .i64 7,.int .i64 5]
def P8:Array Value:=#[.int .i64 0,.int .i64 0,.int .i64 1,.int .i64 0,.int .i64 8,.int .i64 1,.int .i64 2,.int .i64 3,.int .i64 4,.int .i64 7,.int .i64 5]
def Wp:Kk:=⟨0,0,1,0,8,1,2,3,4,7,5⟩
def Rq:Array Value:=#[.int .i64 1,.int .i64 1,.int .i64 2,.int .i64 3,.int .i64 3,.int .i64 4,.int .i64 4,.int .i64 5,.int .i64 7,.int .i64 (-1),.int .i64 5,.int .i64 5]
theorem dH (i:Nat) (hi:i<6):Rq[i*2]? = some (.int .i64 (dE i:Int))∧Rq[i*2+1]? = some (.int .i64 (dF i)):=by
 rcases (show i=0∨i=1∨i=2∨i=3∨i=4∨i=5 by omega) with rfl|rfl|rfl|rfl|rfl|rfl <;> exact ⟨rfl,rfl⟩
set_option maxRecDepth 100000 in
theorem Wq (w:World) (S:Nat→Prop) (a:Nat) (bs:List UInt8) (hS:∀ b,S b→b<w.heap.size) (h:Am w S a bs) (hl:bs.length≤140737488355328) (hok:Rp bs) :
 Calls Tryz.prog 20 #[.pointer (some ⟨a,0,none⟩),JX] w fun e w'=>(∃ v,e=.returned (.tuple #[v,.nilIface])∧BV w' (Fu w.heap.size w'.heap.size) v (Dr 6))∧Below w.heap.size w w':=by
 have hbx:=AL.new w P8 59
 have hBx:Below w.heap.size w (w.alloc (.cells P8 59)):=(Below.refl _ _).alloc (Nat.le_refl _) _
 unfold P8 at hbx hBx
 have Ui:Hid (∀ w',Calls Tryz.prog 47 #[JX] w' fun e w''=>e=.returned (.bool true)∧Below w'.heap.size w' w''):=fun w'=>by
  have h:=JR w' Wp (by decide) (by decide)
  rw [show CL Wp=true from by decide] at h
  exact h
 have rH:=qh (fun w'=>KN w' 8 (by decide))
 unfold JX at Ui ⊢
 go_enter Tryz.func20,Tryz.ntmps20
 go_upto_region 1 with fail
 generalize w.alloc (.cells #[.int .i64 0,.int .i64 0,.int .i64 1,.int .i64 0,.int .i64 8,.int .i64 1,.int .i64 2,.int .i64 3,.int .i64 4,.int .i64 7,.int .i64 5] 59)=w1 at *
 have HX:=qh hbx
 have HB1:=qh hBx
 obtain ⟨x0,x1,x2,x3,x4,x5,x6,x7,x8,x9,OH⟩:w1.cell? ⟨w.heap.size,0,none⟩=some (.int .i64 0)∧w1.cell? ⟨w.heap.size,1,none⟩=some (.int .i64 0)∧w1.cell? ⟨w.heap.size,2,none⟩=some (.int .i64 1)∧w1.cell? ⟨w.heap.size,3,none⟩=some (.int .i64 0)∧w1.cell? ⟨w.heap.size,4,none⟩=some (.int .i64 8)∧w1.cell? ⟨w.heap.size,5,none⟩=some (.int .i64 1)∧w1.cell? ⟨w.heap.size,6,none⟩=some (.int .i64 2)∧w1.cell? ⟨w.heap.size,7,none⟩=some (.int .i64 3)∧w1.cell? ⟨w.heap.size,8,none⟩=some (.int .i64 4)∧w1.cell? ⟨w.heap.size,9,none⟩=some (.int .i64 7)∧w1.cell? ⟨w.heap.size,10,none⟩=some (.int .i64 5):=⟨hbx.at 0 _ rfl,hbx.at 1 _ rfl,hbx.at 2 _ rfl,hbx.at 3 _ rfl,hbx.at 4 _ rfl,hbx.at 5 _ rfl,hbx.at 6 _ rfl,hbx.at 7 _ rfl,hbx.at 8 _ rfl,hbx.at 9 _ rfl,hbx.at 10 _ rfl⟩
 clear hbx hBx
 go_upto_region 3 with (go_at_call 47;(with_reducible refine (Ui.out _).mono ?_);rintro e w2 ⟨rfl,hB⟩;have HB2:=qh hB;clear hB)
 have hx2:=HX.out.below HB2.out HX.out.lt
 have y4:w2.cell? ⟨w.heap.size,4,none⟩=some (.int .i64 8):=hx2.at 4 _ rfl
 have qC:Hid (Calls Tryz.prog 48 #[.int .i64 8] w2 fun e w'=>∃ rb g,e=.returned (.tuple #[.pointer (some ⟨rb,0,none⟩),.int .i64 0])∧FU w' rb w2.heap.size g (List.replicate 8 0)∧w2.heap.size≤rb∧Below w2.heap.size w2 w'):=rH.out w2
 clear x0 x1 x2 x3 x4 x5 x6 x7 x8 x9 OH
 go_upto_region 4 with (go_at_call 48;(with_reducible refine qC.out.mono ?_);rintro e w3 ⟨rf,g,rfl,wu,hrb,hB⟩;have Xz:=qh wu;have HRB:=qh hrb;have HB3:=qh hB;clear wu hrb hB)
 have dI:Hid (Calls Tryz.prog 49 #[.pointer (some ⟨rf,0,none⟩),.int .i64 0] w3 fun e w'=>e=.returned (.tuple #[.int .i64 1,.int .i64 0])∧w'=w3.setCell ⟨g,0,none⟩ (.int .i64 1)∧FU w' rf w2.heap.size g (Dr 0)):=Hf w3 rf w2.heap.size g (List.replicate 8 0) 0 Xz.out (by decide) (by decide) (by decide) (by decide)
 clear y4
 go_upto_region 5 with (go_at_call 49;(with_reducible refine dI.out.mono ?_);rintro e w4 ⟨rfl,hw4,hr4⟩;have jc:=qh hw4;have HR4:=qh hr4;clear hw4 hr4)
 go_upto_region 6 with fail
 have hs3:=HB3.out.size
 have hgw:w2.heap.size≤g∧g<w3.heap.size∧rf≠g:=by obtain ⟨_,_,_,q3,q4,q5⟩:=Xz.out;exact ⟨q3,q4,q5⟩
 have JB:Touch (fun y=>y=g) w3 w4:=by rw [jc.out];exact Touch.BZ (R:=fun y=>y=g) (p:=⟨g,0,none⟩) rfl
 have hb4:AL w4 w.heap.size #[.int .i64 0,.int .i64 0,.int .i64 1,.int .i64 0,.int .i64 8,.int .i64 1,.int .i64 2,.int .i64 3,.int .i64 4,.int .i64 7,.int .i64 5] 59:=(JB.block (Nat.lt_of_lt_of_le hx2.lt hs3) (fun e=>by have:=hx2.lt;omega)).trans (hx2.below HB3.out hx2.lt)
 have Ul:Below w.heap.size w w4:=((HB1.out.trans (HB2.out.mono HB1.out.size)).trans (HB3.out.mono (HB1.out.trans (HB2.out.mono HB1.out.size)).size)).trans (JB.below (fun y e=>by rw [e];exact Nat.le_trans (HB1.out.trans (HB2.out.mono HB1.out.size)).size hgw.1) (by have:=(HB1.out.trans (HB2.out.mono HB1.out.size)).size;omega))
 have hx5:=AL.new w4 #[.pointer (some ⟨a,0,none⟩),.pointer (some ⟨rf,0,none⟩)] 118
 have BX:Below w4.heap.size w4 (w4.alloc (.cells #[.pointer (some ⟨a,0,none⟩),.pointer (some ⟨rf,0,none⟩)] 118)):=(Below.refl _ _).alloc (Nat.le_refl _) _
 have hg4:g<w4.heap.size:=Nat.lt_of_lt_of_le hgw.2.1 JB.size
 have rJ:RS (w4.alloc (.cells #[.pointer (some ⟨a,0,none⟩),.pointer (some ⟨rf,0,none⟩)] 118)) S a w4.heap.size rf w2.heap.size g (Dr 0) bs :=
  ⟨hx5,HR4.out.below BX,(h.below Ul hS).below BX (fun b hb=>Nat.lt_of_lt_of_le (hS b hb) Ul.size),fun b hb=>⟨by have:=hS b hb;have:=Ul.size;have:=BX.size;omega,by have:=hS b hb;have:=(HB1.out.trans (HB2.out.mono HB1.out.size)).size;omega⟩,by omega⟩
 obtain ⟨gx,hgx⟩:∃ q,w4.heap.size=q:=⟨_,rfl⟩
 have hb5:=hb4.below BX hb4.lt
 have jd:=Ul.trans (BX.mono Ul.size)
 rw [hgx] at rJ ⊢
 generalize w4.alloc (.cells #[.pointer (some ⟨a,0,none⟩),.pointer (some ⟨rf,0,none⟩)] 118)=w5 at *
 have YO:=qh rJ
 have Rs:=qh jd
 have rM:Hid (w.heap.size≤g):=by show _≤_;have:=(HB1.out.trans (HB2.out.mono HB1.out.size)).size;omega
 obtain ⟨x5,x6,x7,x8,x9,OH⟩:w5.cell? ⟨w.heap.size,5,none⟩=some (.int .i64 1)∧w5.cell? ⟨w.heap.size,6,none⟩=some (.int .i64 2)∧w5.cell? ⟨w.heap.size,7,none⟩=some (.int .i64 3)∧w5.cell? ⟨w.heap.size,8,none⟩=some (.int .i64 4)∧w5.cell? ⟨w.heap.size,9,none⟩=some (.int .i64 7)∧w5.cell? ⟨w.heap.size,10,none⟩=some (.int .i64 5):=⟨hb5.at 5 _ rfl,hb5.at 6 _ rfl,hb5.at 7 _ rfl,hb5.at 8 _ rfl,hb5.at 9 _ rfl,hb5.at 10 _ rfl⟩
 have rO:=qh (fun (w':World) i (hi:i<6) (hr:RS w' S a gx rf w2.heap.size g (Dr i) bs)=>dG hl hok i hi hr)
 clear hx2 hs3 hgw JB hb4 Ul hx5 BX hg4 rJ hb5 jd hgx h hok
 go_wp2_with fail
 have hx6:=AL.new w5 Rq 119
 have FP:Below w5.heap.size w5 (w5.alloc (.cells Rq 119)):=(Below.refl _ _).alloc (Nat.le_refl _) _
 have dJ:=YO.out.below FP
 have dK:=Rs.out.trans (FP.mono Rs.out.size)
 obtain ⟨gr,hgr⟩:∃ q,w5.heap.size=q:=⟨_,rfl⟩
 rw [hgr] at hx6 ⊢
 have HGR:Hid (w.heap.size≤gr∧gr≠g):=⟨by have:=Rs.out.size;omega,fun e=>by have:=YO.out.2.1;obtain ⟨_,_,_,_,q4,_⟩:=this;omega⟩
 unfold Rq at hx6 dJ dK
 generalize w5.alloc (.cells #[.int .i64 1,.int .i64 1,.int .i64 2,.int .i64 3,.int .i64 3,.int .i64 4,.int .i64 4,.int .i64 5,.int .i64 7,.int .i64 (-1),.int .i64 5,.int .i64 5] 119)=w6 at *
 have HX6:Hid (AL w6 gr Rq 119):=hx6
 have rP:=qh dJ
 have rQ:=qh dK
 clear hx6 dJ dK FP hgr x5 x6 x7 x8 x9 OH YO Rs
 go_loopw [48] (fun vi wr=>∃ i:Nat,vi=.int .i64 i∧i≤6∧Hid (RS wr S a gx rf w2.heap.size g (Dr i) bs)∧Hid (AL wr gr Rq 119)∧Hid (Below w.heap.size w wr)) (fun vi _=>6-(intOf vi).toNat)
 case atStart=>exact ⟨0,rfl,by omega,rP,HX6,rQ⟩
 case round =>
  obtain ⟨i,rfl,hi,HR,HX,HB⟩:=hrel
  by_cases h6:i=6
  · subst h6
    have ww:=qh (JN wr rf w2.heap.size g (Dr 6) HR.out.2.1 (by decide))
    have y1:=HR.out.wm
    rw [show ((6:Nat):Int)=6 from rfl]
    go_wp2_with (go_at_call 51;(with_reducible refine ww.out.mono ?_);rintro e w8 ⟨v8,rfl,wz,KS⟩;have HV8:=qh wz;clear wz)
    go_ret2
    exact ⟨⟨v8,rfl,HV8.out.sub (AB _) (fun b hb=>⟨Nat.le_trans HB.out.size hb.1,hb.2⟩)⟩,HB.out.trans (KS.mono HB.out.size)⟩
  · obtain ⟨e0,e1⟩:=dH i (by omega)
    have x0:wr.cell? ⟨gr,i*2,none⟩=some (.int .i64 (dE i:Int)):=HX.out.at _ _ e0
    have x1:wr.cell? ⟨gr,i*2+1,none⟩=some (.int .i64 (dF i)):=HX.out.at _ _ e1
    have hi6:i<6:=by omega
    clear e0 e1
    go_upto_region 9 with fail
    have gW:=AL.new wr #[.int .i64 (dE i:Int),.int .i64 (dF i)] 119
    have Gs:Below wr.heap.size wr (wr.alloc (.cells #[.int .i64 (dE i:Int),.int .i64 (dF i)] 119)):=(Below.refl _ _).alloc (Nat.le_refl _) _
    generalize wr.alloc (.cells #[.int .i64 (dE i:Int),.int .i64 (dF i)] 119)=w7 at *
    have y0:w7.cell? ⟨wr.heap.size,0,none⟩=some (.int .i64 (dE i:Int)):=gW.at 0 _ rfl
    have y1:w7.cell? ⟨wr.heap.size,1,none⟩=some (.int .i64 (dF i)):=gW.at 1 _ rfl
    have iJ:=qh (rO.out w7 i hi6 (HR.out.below Gs))
    have Es:=qh Gs
    clear x0 x1 gW Gs
    go_wp2_with (go_at_call 50;(with_reducible refine iJ.out.mono ?_);rintro e w8 ⟨rfl,je,xA⟩;have Rt:=qh je;have Js:=qh xA;clear je xA)
    go_roundw
    case rel=>exact ⟨i+1,by simp,by omega,Rt,by show AL _ _ _ _;exact (Js.out.block (Nat.lt_of_lt_of_le HX.out.lt Es.out.size) HGR.out.2).trans (HX.out.below Es.out HX.out.lt),by show Below _ _ _;exact (HB.out.trans (Es.out.mono HB.out.size)).trans (Js.out.below (fun y e=>by rw [e];exact rM.out) (Nat.le_trans HB.out.size Es.out.size))⟩
    case measure=>simp [intOf];omega
end
section
open Go.RowKit
attribute [local go_sem] Oper.semAt_some
def Gb (u l r:Nat):Array Value:=#[.int .i64 8,.int .i64 (u:Int),.int .i64 0,.int .i64 (l:Int),.int .i64 0,.int .i64 0,.int .i64 (r:Int),.int .i64 0,.int .i64 0,.int .i64 0,.int .i64 0,.int .i64 0,.int .i64 0]
section
variable {w:World} {S:Nat→Prop} {a gs:Nat} {bs:List UInt8}
theorem Yr (no:Int) (u l r:Nat) (hS:∀ b,S b→b<w.heap.size) (h:Am w S a bs) (hl:bs.length≤140737488355328) (hn:Al bs no 0≠0) (hs:AL w gs (Gb u l r) 34) :
 Calls Tryz.prog 24 #[.pointer (some ⟨gs,0,none⟩),.pointer (some ⟨a,0,none⟩),.int .i64 no] w fun e w'=>e=.returned (.tuple #[])∧Below w.heap.size w w':=by
 have HN:Hid (Calls Tryz.prog 52 #[.pointer (some ⟨a,0,none⟩),.int .i64 no,.int .i64 0] w fun e w'=>(∃ t lf Ak nk ck Av nv cv ty v,e=.returned (.tuple #[.agg #[.int .i64 t,.bool lf,.slice Ak nk ck,.slice Av nv cv],.iface ty v]))∧Below w.heap.size w w'):=(Fj w S a bs no 0 hS h hl).mono fun e w' ⟨hr,hB⟩=>by
  obtain ⟨t,lf,Ak,nk,ck,Av,nv,cv,ev,rfl,_,hi⟩:=hr.open_
  have he:=hi.out
  unfold Bf at he
  rw [if_neg hn] at he
  obtain ⟨ty,v,rfl,_⟩:=he.form
  exact ⟨⟨_,_,_,_,_,_,_,_,_,_,rfl⟩,hB⟩
 clear h hn hs
 go_enter Tryz.func24,Tryz.ntmps24
 go_wp2_with (go_at_call 52;(with_reducible refine HN.out.mono ?_);rintro e w2 ⟨⟨t,lf,Ak,nk,ck,Av,nv,cv,ty,v,rfl⟩,hB⟩)
 (try simp only [Exit.inBlock,Exit.then])
 exact bodyPost_ret (results_none rfl _ _ _) rfl ⟨rfl,hB.alloc hB.size _⟩
set_option maxRecDepth 100000 in
theorem Ws (no:Int) (t m u l r:Nat) (hS:∀ b,S b→b<w.heap.size) (h:Am w S a bs) (hl:bs.length≤140737488355328) (hn:Dv bs no 0) (ht:(nodeAt bs no).tree=t) (hlf:(nodeAt bs no).leaf=true) (hmx:∀ w',Calls Tryz.prog 53 #[.int .i64 (t:Int),.bool true] w' fun e w''=>e=.returned (.int .i64 (m:Int))∧w''=w') (hm:m≤100) (hlr:l≤1000∧r≤10000) (hs:AL w gs (Gb u l r) 34) :
 Calls Tryz.prog 24 #[.pointer (some ⟨gs,0,none⟩),.pointer (some ⟨a,0,none⟩),.int .i64 no] w fun e w'=>e=.returned (.tuple #[])∧AL w' gs (Gb u (l+1) (r+m)) 34∧Touch (fun y=>y=gs) w w':=by
 have HN:=qh (P7 hS h hl hn)
 rw [ht,hlf] at HN
 have Yg:=qh hmx
 have RN:=qh hs
 clear h hn ht hlf hmx hs
 go_enter Tryz.func24,Tryz.ntmps24
 go_upto_region 1 with (go_at_call 52;(with_reducible refine HN.out.mono ?_);rintro e w2 ⟨⟨Ak,ck,Av,cv,rfl⟩,hB⟩;have HB:=qh hB;clear hB)
 have hb3:=AL.new w2 #[.int .i64 (t:Int),.bool true,.slice Ak 0 ck,.slice Av 0 cv] 125
 have hB3:Below w2.heap.size w2 (w2.alloc (.cells #[.int .i64 (t:Int),.bool true,.slice Ak 0 ck,.slice Av 0 cv] 125)):=(Below.refl _ _).alloc (Nat.le_refl _) _
 obtain ⟨gn,hgn⟩:∃ q,w2.heap.size=q:=⟨_,rfl⟩
 rw [hgn] at hb3 ⊢
 have hne:gn≠gs:=by have:=RN.out.lt;have:=HB.out.size;omega
 have hs3:=(RN.out.below HB.out RN.out.lt).below hB3 (RN.out.below HB.out RN.out.lt).lt
 generalize w2.alloc (.cells #[.int .i64 (t:Int),.bool true,.slice Ak 0 ck,.slice Av 0 cv] 125)=w3 at *
 have HB3:=qh (HB.out.trans (hB3.mono HB.out.size))
 have rR:=qh hs3
 have n0:w3.cell? ⟨gn,0,none⟩=some (.int .i64 (t:Int)):=hb3.at 0 _ rfl
 have n1:w3.cell? ⟨gn,1,none⟩=some (.bool true):=hb3.at 1 _ rfl
 have n2:w3.cell? ⟨gn,2,none⟩=some (.slice Ak 0 ck):=hb3.at 2 _ rfl
 have s3:w3.cell? ⟨gs,3,none⟩=some (.int .i64 (l:Int)):=hs3.at 3 _ rfl
 have f3:=hs3.free 3
 have l3:=hs3.lt
 have Rj:=qh hb3
 have hwl:IntKind.i64.wrap ((l:Int)+1)=((l+1:Nat):Int):=by rw [IntKind.wrap_i64];omega
 clear hb3 hB3 hgn hs3
 go_upto_region 5 with fail
 have hs4:AL (w3.setCell ⟨gs,3,none⟩ (.int .i64 ((l:Int)+1))) gs (Gb u (l+1) r) 34:=rR.out.set 3 (.int .i64 ((l:Int)+1))
 have bZ:=Rj.out.far (fun e=>hne e.symm) 3 (.int .i64 ((l:Int)+1))
 have JB:Touch (fun y=>y=gs) w3 (w3.setCell ⟨gs,3,none⟩ (.int .i64 ((l:Int)+1))):=Touch.BZ (R:=fun y=>y=gs) (p:=⟨gs,3,none⟩) rfl
 clear n0 n1 n2 s3 f3 l3 hwl
 generalize w3.setCell ⟨gs,3,none⟩ (.int .i64 ((l:Int)+1))=w4 at *
 have n2:w4.cell? ⟨gn,2,none⟩=some (.slice Ak 0 ck):=bZ.at 2 _ rfl
 have s5:w4.cell? ⟨gs,5,none⟩=some (.int .i64 0):=hs4.at 5 _ rfl
 have f5:=hs4.free 5
 have l5:=hs4.lt
 have xB:=qh hs4
 have MP:=qh bZ
 have P9:=qh JB
 clear hs4 bZ JB
 go_region
 have hs5:AL (w4.setCell ⟨gs,5,none⟩ (.int .i64 0)).drew gs (Gb u (l+1) r) 34:=xB.out.set 5 (.int .i64 0)
 have nU:AL (w4.setCell ⟨gs,5,none⟩ (.int .i64 0)).drew gn _ _:=MP.out.far (fun e=>hne e.symm) 5 (.int .i64 0)
 have JY:Touch (fun y=>y=gs) w4 (w4.setCell ⟨gs,5,none⟩ (.int .i64 0)).drew:=Touch.trans (Touch.BZ (R:=fun y=>y=gs) (p:=⟨gs,5,none⟩) rfl) Touch.drew
 clear n2 s5 f5 l5
 generalize (w4.setCell ⟨gs,5,none⟩ (.int .i64 0)).drew=w5 at *
 have n0:w5.cell? ⟨gn,0,none⟩=some (.int .i64 (t:Int)):=nU.at 0 _ rfl
 have s6:w5.cell? ⟨gs,6,none⟩=some (.int .i64 (r:Int)):=hs5.at 6 _ rfl
 have f6:=hs5.free 6
 have l6:=hs5.lt
 have aB:=qh hs5
 have Qp:=qh JY
 clear hs5 nU JY
 go_wp2_with fail
 go_region_with (go_at_call 53;(with_reducible refine (Yg.out _).mono ?_);rintro e w6 ⟨rfl,hw⟩;rw [hw];clear hw w6)
 all_goals
  have bS:IntKind.i64.wrap ((r:Int)+(m:Int))=((r+m:Nat):Int):=by rw [IntKind.wrap_i64];omega
  rw [bS]
  have hs6:AL (w5.setCell ⟨gs,6,none⟩ (.int .i64 ((r+m:Nat):Int))).drew gs (Gb u (l+1) (r+m)) 34:=aB.out.set 6 (.int .i64 ((r+m:Nat):Int))
  have hT6:Touch (fun y=>y=gs) w5 (w5.setCell ⟨gs,6,none⟩ (.int .i64 ((r+m:Nat):Int))).drew:=Touch.trans (Touch.BZ (R:=fun y=>y=gs) (p:=⟨gs,6,none⟩) rfl) Touch.drew
  (try simp only [Exit.inBlock,Exit.then])
  exact bodyPost_end (results_none rfl _ _ _) rfl ⟨rfl,hs6,((((Touch.of_below HB3.out).trans P9.out).trans Qp.out).trans hT6)⟩
def aC (i:Nat):Nat:=match i with|0=>0|1=>0|2=>1|3=>2|4=>3|5=>4|_=>5
def aD (i:Nat):Nat:=match i with|0=>0|1=>0|2=>18|3=>24|4=>33|5=>51|_=>69
def NU (bs:List UInt8) (no:Int) (t:Nat):Prop:=Dv bs no 0∧(nodeAt bs no).tree=t∧(nodeAt bs no).leaf=true
def Lj (bs:List UInt8):Prop:=Al bs 0 0≠0∧NU bs 1 1∧NU bs 2 3∧NU bs 3 4∧NU bs 4 5∧NU bs 5 5∧Al bs 6 0≠0∧Al bs 7 0≠0
theorem rT (w:World) (t m:Nat) (h:BH t true=m):Calls Tryz.prog 53 #[.int .i64 (t:Int),.bool true] w fun e w'=>e=.returned (.int .i64 (m:Int))∧w'=w:=by
 have:=El w t true
 rwa [h] at this
theorem jf (i:Nat) (hi:i<8) (u:Nat) (hS:∀ b,S b→b<w.heap.size) (h:Am w S a bs) (hl:bs.length≤140737488355328) (ok:Lj bs) (hs:AL w gs (Gb u (aC i) (aD i)) 34) :
 Calls Tryz.prog 24 #[.pointer (some ⟨gs,0,none⟩),.pointer (some ⟨a,0,none⟩),.int .i64 (i:Int)] w fun e w'=>e=.returned (.tuple #[])∧AL w' gs (Gb u (aC (i+1)) (aD (i+1))) 34∧Touch (fun y=>y=gs) w w':=by
 obtain ⟨k0,k1,k2,k3,k4,k5,k6,k7⟩:=ok
 have hbad:∀ no:Int,Al bs no 0≠0→Calls Tryz.prog 24 #[.pointer (some ⟨gs,0,none⟩),.pointer (some ⟨a,0,none⟩),.int .i64 no] w fun e w'=>e=.returned (.tuple #[])∧AL w' gs (Gb u (aC i) (aD i)) 34∧Touch (fun y=>y=gs) w w':=fun no hn=>(Yr no u _ _ hS h hl hn hs).mono fun e w' ⟨he,hB⟩=>⟨he,hs.below hB hs.lt,Touch.of_below hB⟩
 have hok:∀ (no:Int) (t m l r:Nat),aC i=l→aD i=r→NU bs no t→BH t true=m→m≤100→l≤1000∧r≤10000→Calls Tryz.prog 24 #[.pointer (some ⟨gs,0,none⟩),.pointer (some ⟨a,0,none⟩),.int .i64 no] w fun e w'=>e=.returned (.tuple #[])∧AL w' gs (Gb u (l+1) (r+m)) 34∧Touch (fun y=>y=gs) w w':=fun no t m l r e1 e2 hn hm hm2 hlr=>Ws no t m u l r hS h hl hn.1 hn.2.1 hn.2.2 (fun w'=>rT w' t m hm) hm2 hlr (by rw [← e1,← e2];exact hs)
 rcases (show i=0∨i=1∨i=2∨i=3∨i=4∨i=5∨i=6∨i=7 by omega) with rfl|rfl|rfl|rfl|rfl|rfl|rfl|rfl
 · exact hbad 0 k0
 · exact hok 1 1 18 0 0 rfl rfl k1 (by decide) (by decide) (by decide)
 · exact hok 2 3 6 1 18 rfl rfl k2 (by decide) (by decide) (by decide)
 · exact hok 3 4 9 2 24 rfl rfl k3 (by decide) (by decide) (by decide)
 · exact hok 4 5 18 3 33 rfl rfl k4 (by decide) (by decide) (by decide)
 · exact hok 5 5 18 4 51 rfl rfl k5 (by decide) (by decide) (by decide)
 · exact hbad 6 k6
 · exact hbad 7 k7
end
end
section
open Go.RowKit
attribute [local go_sem] Oper.semAt_some
section
variable {w:World} {S:Nat→Prop} {a gs gm:Nat} {bs:List UInt8}
set_option maxRecDepth 100000 in
theorem jg (i:Nat) (hi:i<8) (hS:∀ b,S b→b<w.heap.size) (ny:∀ b,S b→b≠gs) (h:Am w S a bs) (hl:bs.length≤140737488355328) (ok:Lj bs) (hs:AL w gs (Gb i (aC i) (aD i)) 34) (hm:AL w gm #[.pointer (some ⟨a,0,none⟩)] 25) (hne:gm≠gs) :
 Calls Tryz.prog 23 #[.int .i64 (i:Int),.int .i64 1,.pointer (some ⟨gs,0,none⟩),.pointer (some ⟨gm,0,none⟩)] w fun e w'=>e=.returned (.tuple #[])∧AL w' gs (Gb (i+1) (aC (i+1)) (aD (i+1))) 34∧Touch (fun y=>y=gs) w w':=by
 have s1:w.cell? ⟨gs,1,none⟩=some (.int .i64 (i:Int)):=hs.at 1 _ rfl
 have f1:=hs.free 1
 have l1:=hs.lt
 have Ko:Touch (fun y=>y=gs) w (w.setCell ⟨gs,1,none⟩ (.int .i64 ((i:Int)+1))):=Touch.BZ (R:=fun y=>y=gs) (p:=⟨gs,1,none⟩) rfl
 have hs2:AL (w.setCell ⟨gs,1,none⟩ (.int .i64 ((i:Int)+1))) gs (Gb (i+1) (aC i) (aD i)) 34:=hs.set 1 (.int .i64 ((i:Int)+1))
 have hm2:AL (w.setCell ⟨gs,1,none⟩ (.int .i64 ((i:Int)+1))) gm _ _:=hm.far (fun e=>hne e.symm) 1 (.int .i64 ((i:Int)+1))
 have h2:=h.keep (w':=w.setCell ⟨gs,1,none⟩ (.int .i64 ((i:Int)+1))) (fun _ h=>h) (Ap Ko (fun b hb=>⟨hS b hb,fun e=>ny b hb e⟩))
 have HN:=qh (jf i hi (i+1) (fun b hb=>Nat.lt_of_lt_of_le (hS b hb) Ko.size) h2 hl ok hs2)
 have HT2:=qh Ko
 have m0:(w.setCell ⟨gs,1,none⟩ (.int .i64 ((i:Int)+1))).cell? ⟨gm,0,none⟩=some (.pointer (some ⟨a,0,none⟩)):=hm2.at 0 _ rfl
 clear hs hm h Ko hs2 hm2 h2 ok
 go_enter Tryz.func23,Tryz.ntmps23
 go_upto_region 3 with fail
 clear s1 f1 l1
 generalize w.setCell ⟨gs,1,none⟩ (.int .i64 ((i:Int)+1))=w2 at *
 go_wp2_with (go_at_call 24;(with_reducible refine HN.out.mono ?_);rintro e w3 ⟨rfl,hb3,TS⟩)
 (try simp only [Exit.inBlock,Exit.then])
 exact bodyPost_end (results_none rfl _ _ _) rfl ⟨rfl,hb3,HT2.out.trans TS⟩
set_option maxRecDepth 100000 in
theorem aF (gc oc c:Nat) (hS:∀ b,S b→b<w.heap.size) (ny:∀ b,S b→b≠gs) (h:Am w S a bs) (hl:bs.length≤140737488355328) (ok:Lj bs) (hs:AL w gs (Gb 0 0 0) 34) (hm:AL w gm #[.pointer (some ⟨a,0,none⟩)] 25) (hne:gm≠gs) (hgc:gc<w.heap.size∧gc≠gs) (hc:∀ i,i<8→w.cell? ⟨gc,oc+i,none⟩=some (.int .i64 1)) :
 Calls Tryz.prog 22 #[.slice (some ⟨gc,oc,none⟩) 8 c,.func (.func 23) #[] #[.pointer (some ⟨gs,0,none⟩),.pointer (some ⟨gm,0,none⟩)]] w fun e w'=>e=.returned (.tuple #[])∧AL w' gs (Gb 8 5 69) 34∧Touch (fun y=>y=gs) w w':=by
 have HST:=qh (fun (W:World) (hT:Touch (fun y=>y=gs) w W) i (hi:i<8) hsb=>jg (w:=W) (gm:=gm) i hi (fun b hb=>Nat.lt_of_lt_of_le (hS b hb) hT.size) ny (h.keep (fun _ h=>h) (Ap hT (fun b hb=>⟨hS b hb,fun e=>ny b hb e⟩))) hl ok hsb ((hT.block hm.lt hne).trans hm) hne)
 have HC:Hid (∀ W,Touch (fun y=>y=gs) w W→∀ i,i<8→W.cell? ⟨gc,oc+i,none⟩=some (.int .i64 1)):=fun W hT i hi=>(World.cell?_of_block (a:=⟨gc,oc+i,none⟩) (hT.block hgc.1 hgc.2)).trans (hc i hi)
 have rU:=qh hs
 clear h hc hs hm ok
 go_enter Tryz.func22,Tryz.ntmps22
 go_wp2_with fail
 go_loopw [8] (fun vi wr=>∃ i:Nat,vi=.int .i64 i∧i≤8∧Hid (AL wr gs (Gb i (aC i) (aD i)) 34)∧Hid (Touch (fun y=>y=gs) w wr)) (fun vi _=>8-(intOf vi).toNat)
 case atStart=>exact ⟨0,rfl,by omega,rU,Touch.refl⟩
 case round =>
  obtain ⟨i,rfl,hi,HB,HT⟩:=hrel
  rcases Nat.lt_or_ge i 8 with hlt|hge
  · have c0:=HC.out wr HT.out i hlt
    have HQ:=qh (HST.out wr HT.out i hlt HB.out)
    go_wp2_with (go_at_call 23;(with_reducible refine HQ.out.mono ?_);rintro e w3 ⟨rfl,hb3,TS⟩;have HB3:=qh hb3;have HT3:=qh TS;clear hb3 TS)
    go_roundw
    case rel=>exact ⟨i+1,by simp,by omega,HB3,by show Touch _ _ _;exact HT.out.trans HT3.out⟩
    case measure=>simp [intOf];omega
  · obtain rfl:i=8:=by omega
    rw [show ((8:Nat):Int)=8 from rfl]
    go_wp2_with fail
    (try simp only [Exit.inBlock,Exit.then])
    exact bodyPost_end (results_none rfl _ _ _) rfl ⟨rfl,HB.out,HT.out⟩
end
end
end Go.Proofs.YthblbddmcdnllaaGreatDoor
