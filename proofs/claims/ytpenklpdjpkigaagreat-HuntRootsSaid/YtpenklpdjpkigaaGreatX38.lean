/- A part of the proof: WLay, WLives35, WHuntRoots. -/
import Derived.Test.YtpenklpdjpkigaaGreatX33
import Derived.Test.YtpenklpdjpkigaaGreatX30
import Derived.Test.YtpenklpdjpkigaaGreatX19
import Derived.Test.YtpenklpdjpkigaaGreatY1
import Derived.Test.YtpenklpdjpkigaaGreatX35
import Derived.Defers
import Derived.Recover
import Derived.Test.YtpenklpdjpkigaaGreatX34
import Derived.Test.YtpenklpdjpkigaaGreatX37
import Derived.Test.YtpenklpdjpkigaaGreatY7
import Derived.Test.YtpenklpdjpkigaaGreatY5
set_option maxHeartbeats 6400000
set_option linter.unusedVariables false
set_option linter.unusedSimpArgs false
namespace Go.Proofs.YtpenklpdjpkigaaGreat
section
open Go.RowKit Go.Shelf
def FL:List UInt8:=List.replicate 1024 0
set_option maxRecDepth 100000
theorem QQ:Gy.length=2048:=by kernel_rfl
theorem NC:FL.length=1024:=by kernel_rfl
theorem X3:FL.take (Bc FL.length*256)=FL:=by kernel_rfl
theorem Vo:Ck Gy 9 (Gy.length / 256-1)=[(CO Gy).top]:=by kernel_rfl
theorem Vp:Cs Gy 9 (Gy.length / 256-1)=[(CO Gy).BQ]:=by kernel_rfl
theorem dD:Cb Gy=0:=by kernel_rfl
theorem dE:(BJ (Az Gy (CO Gy).BQ 3 9)).code=0:=by kernel_rfl
theorem dF:(Az Gy (CO Gy).BQ 3 9).AO.length=0:=by kernel_rfl
theorem dG:(BJ (Az Gy (CO Gy).top 1 9)).code=0:=by kernel_rfl
theorem dH:(Az Gy (CO Gy).top 1 9).AO.length=0:=by kernel_rfl
theorem ww:Ck FL 9 (FL.length / 256-1)=[]:=by kernel_rfl
theorem pK:Cb FL=4:=by kernel_rfl
end
section
open Go.RowKit Go.Shelf
theorem Xx (w:World):(Instr.typeAssert .nilIface 20 86 true).run Tryz.prog w=.ok (.tuple #[.agg #[.nilIface],.bool false]) w:=by
 kernel_rfl
set_option maxRecDepth 100000 in
theorem pF (g4 g5:Nat) (w:World) :
 CallsD Tryz.prog 35 #[.pointer (some ⟨g4,0,none⟩),.pointer (some ⟨g5,0,none⟩)] .returning w fun e u' w'=>e=.returned (.tuple #[])∧u'=.returning∧Below w.heap.size w w':=by
 refine callsD_of_wpS Tryz.func35 rfl fun c₀ cs hu=>?_
 apply wpS_seq
 apply wpS_region
 have hta:=Xx w
 simp [hta,wpOpsS,go_sem,recoverD,hu,Tryz.ntmps35,Exit.thenS]
 apply wpS_seq
 apply wpS_region
 simp [wpOpsS,go_sem,recoverD,hu,Exit.thenS]
 refine wpS_cond (t:=false) (by simp [Act.eval,Array.replicate,Array.replicate_succ]) ?_
 simp only [Bool.false_eq_true,if_false]
 refine wpS_of_wp (wp_skip ?_)
 have hB:Below w.heap.size w (w.alloc (.cells #[.nilIface] 86)):=(Below.refl _ _).alloc (Nat.le_refl _) _
 cases c₀
 simp_all [bodyPostS,results,Tryz.results35]
theorem Vn {fn:Func} {k1 k2 g4 g5:Nat} {tmps:Array Value} {w:World} {a b:Value} (hres:fn.results=#[.cell k1 24,.cell k2 40]) (h1:tmps[k1]? = some (.pointer (some ⟨g4,0,none⟩))) (h2:tmps[k2]? = some (.pointer (some ⟨g5,0,none⟩))) (c4:w.cell? ⟨g4,0,none⟩=some a) (c5:w.cell? ⟨g5,0,none⟩=some b):(results fn tmps).run Tryz.prog w=.ok (.tuple #[a,b]) w:=by
 simp [results,hres,h1,h2,go_sem,c4,c5]
theorem Xy {fn:Func} {tmps:Array Value} {R:Ending→World→Prop} {w:World} {g4 g5:Nat} {a b:Value} {k1 k2:Nat} (hres:fn.results=#[.cell k1 24,.cell k2 40]) (h1:tmps[k1]? = some (.pointer (some ⟨g4,0,none⟩))) (h2:tmps[k2]? = some (.pointer (some ⟨g5,0,none⟩))) (c4:w.cell? ⟨g4,0,none⟩=some a) (c5:w.cell? ⟨g5,0,none⟩=some b) (hR:R (.returned (.tuple #[a,b])) w) :
 Leaves Tryz.prog fn tmps R [] (settle .returning) w:=⟨_,Vn hres h1 h2 c4 c5,hR⟩
theorem Bo.Xz {w w':World} {base a g:Nat} {bs:List UInt8} (h:Bo w base a bs) (hT:Touch (fun x=>x=g) w w') (hg:g<base):Bo w' base a bs:=by
 obtain ⟨h0,A,c,q1,q2⟩:=h
 have q1':w.heap[a]? = some _:=q1
 exact ⟨h0,A,c,(hT.block (Array.getElem?_eq_some_iff.1 q1').1 (fun e=>by have e:a=g:=e;omega)).trans q1,BG q2 hT (fun x hx e=>by have:=(q2.lt x hx).1;have e:x=g:=e;omega)⟩
set_option maxRecDepth 100000 in
theorem wU (w:World):Calls Tryz.prog 17 #[Fz,.int .i64 8] w fun e w'=>(∃ a,e=.returned (.tuple #[.pointer (some ⟨a,0,none⟩),.nilIface])∧Bo w' w.heap.size a rX)∧Below w.heap.size w w':=by
 have aQ:=qh (fun w'=>jk w')
 have Rj:=qh (fun w'=>ABO w')
 have J2:=qh (fun w'=>oz w')
 have rQ:=qh (fun w'=>Tn w')
 unfold Fz at aQ Rj ⊢
 have rT:∀ (fn:Fn) (first cap:Array Value) (w:World),(Instr.makeFunc fn first cap).run Tryz.prog w=.ok (.func fn first cap) w:=fun _ _ _ _=>rfl
 go_enter_defers Tryz.func17,Tryz.ntmps17
 obtain ⟨k2,k4,k5,kB,kz⟩:=AP.three w #[.int .i64 0,.int .i64 0,.int .i64 1,.int .i64 0,.slice none 0 0] #[.pointer none] #[.nilIface] 45 24 40
 go_upto_region 1 with fail
 generalize ((w.alloc (.cells #[.int .i64 0,.int .i64 0,.int .i64 1,.int .i64 0,.slice none 0 0] 45)).alloc (.cells #[.pointer none] 24)).alloc (.cells #[.nilIface] 40)=w1 at *
 obtain ⟨g5,hg5⟩:∃ q,w.heap.size+1+1=q:=⟨_,rfl⟩
 obtain ⟨g4,hg4⟩:∃ q,w.heap.size+1=q:=⟨_,rfl⟩
 obtain ⟨g2,hg2⟩:∃ q,w.heap.size=q:=⟨_,rfl⟩
 have bV:Hid (w.heap.size≤g2∧w.heap.size≤g4∧w.heap.size≤g5∧g2≠g4∧g2≠g5∧g4≠g5):=⟨by omega,by omega,by omega,by omega,by omega,by omega⟩
 rw [hg5] at k5
 rw [hg4] at k4
 try rw [hg5]
 try rw [hg4]
 rw [hg2] at k2
 have HW:=qh hg2
 have iy:=qh k2
 have bU:=qh k4
 have HK5:=qh k5
 have HB1:=qh kB
 obtain ⟨x0,x1,x2,x3,x4⟩:=Cc k2
 clear k2 k4 k5 kB kz hg5 hg4
 rw [hg2]
 clear hg2
 go_upto_region 5 with (go_at_call 36;(with_reducible refine (aQ.out _).mono ?_);rintro e w2 ⟨rfl,hB⟩;have HB2:=qh hB;clear hB)
 rename World=>w2
 clear x0 x1 x2 x3 x4
 have pG:=qh (iy.out.below HB2.out iy.out.lt)
 have Tk:=qh (bU.out.below HB2.out bU.out.lt)
 have pI:=qh (HK5.out.below HB2.out HK5.out.lt)
 have aG:Hid (g2<w1.heap.size∧g4<w1.heap.size∧g5<w1.heap.size):=⟨iy.out.lt,bU.out.lt,HK5.out.lt⟩
 go_upto_region 6 with (go_at_call 37;(with_reducible refine (J2.out _).mono ?_);rintro e w3 ⟨⟨img,rfl,hoi⟩,hB⟩;have hb4:=Tk.out.below hB Tk.out.lt;have v4:w3.cell? ⟨g4,0,none⟩=some (.pointer none):=hb4.at 0 _ rfl;have f4:=hb4.free 0;have l4:=hb4.lt;have ABU:=qh hb4;have HOI:=qh hoi;have HB3:=qh hB;clear hoi hB hb4)
 have hT4:Touch (fun x=>x=g4) w3 (w3.setCell ⟨g4,0,none⟩ (.pointer (some ⟨img,0,none⟩))):=Touch.Dc (R:=fun x=>x=g4) (p:=⟨g4,0,none⟩) rfl
 have hb4:AP (w3.setCell ⟨g4,0,none⟩ (.pointer (some ⟨img,0,none⟩))) g4 #[.pointer (some ⟨img,0,none⟩)] 24:=ABU.out.set 0 _
 have hs2:=HB2.out.size
 have hs3:=HB3.out.size
 have ABV:=HOI.out.Xz hT4 (by have:=aG.out.2.1;omega)
 have hb2:=(hT4.block (Nat.lt_of_lt_of_le pG.out.lt hs3) bV.out.2.2.2.1).trans (pG.out.below HB3.out pG.out.lt)
 have hb5:=(hT4.block (Nat.lt_of_lt_of_le pI.out.lt hs3) (fun e=>bV.out.2.2.2.2.2 e.symm)).trans (pI.out.below HB3.out pI.out.lt)
 have uQ:(w3.setCell ⟨g4,0,none⟩ (.pointer (some ⟨img,0,none⟩))).heap.size=w3.heap.size:=by simp
 have ah:Below w.heap.size w (w3.setCell ⟨g4,0,none⟩ (.pointer (some ⟨img,0,none⟩))):=by
  have h1:=HB1.out.trans ((HB2.out.trans (HB3.out.mono hs2)).mono HB1.out.size)
  exact h1.setCell bV.out.2.1 _
 clear v4 f4 l4 hT4 ABU pG Tk pI HOI J2 aQ
 generalize w3.setCell ⟨g4,0,none⟩ (.pointer (some ⟨img,0,none⟩))=w4 at *
 have pJ:Hid (AP w4 g2 #[.int .i64 0,.int .i64 0,.int .i64 1,.int .i64 0,.slice none 0 0] 45):=hb2
 have Tm:=qh hb4
 have wV:Hid (AP w4 g5 #[.nilIface] 40):=hb5
 have ABW:=qh ABV
 have CL:=qh ah
 have yP:Hid (w1.heap.size≤w2.heap.size∧w2.heap.size≤w4.heap.size):=⟨hs2,by omega⟩
 obtain ⟨x0,x1,x2,x3,x4⟩:=Cc pJ.out
 clear hb2 hb4 hb5 ABV ah hs2 hs3 uQ
 go_upto_region 10 with (go_at_call 38;(with_reducible refine (Rj.out _).mono ?_);rintro e w5 ⟨rfl,hB⟩;have CE:=qh hB;clear hB)
 rename World=>w5
 clear x0 x1 x2 x3 x4
 have Ma:=qh (pJ.out.below CE.out pJ.out.lt)
 have Q4:=qh (Tm.out.below CE.out Tm.out.lt)
 have wW:=qh (wV.out.below CE.out wV.out.lt)
 have wX:=qh (ABW.out.below' CE.out)
 obtain ⟨Ai,ci,hci,hli⟩:=wX.out.QM
 have xu:Hid (Calls Tryz.prog 39 #[.pointer (some ⟨img,0,none⟩),.int .i64 1] w5 fun e w'=>(∃ a gl c,e=.returned (.tuple #[.pointer (some ⟨a,0,none⟩),.nilIface])∧w5.heap.size≤a∧gl≠a∧JF w' a img 7 c (some ⟨gl,0,none⟩) 0∧w'.ownsRow w5.heap.size 3 1 (.slice (some ⟨gl,0,none⟩) 7 c) 7 (AB encI (Xn 7)))∧Below w5.heap.size w5 w'):=by
  rw [En] at hci
  exact AA1 w5 img 2048 ci Ai hci (by decide) (by decide) (by decide) hli
 have v4:w5.cell? ⟨g4,0,none⟩=some (.pointer (some ⟨img,0,none⟩)):=Q4.out.at 0 _ rfl
 clear hci hli pJ Tm wV ABW Rj
 go_upto_region 11 with (go_at_call 39;(with_reducible refine xu.out.mono ?_);rintro e w6 ⟨⟨a,gl,c,rfl,hga,hgl,hab,hro⟩,hB⟩;have hb5:=wW.out.below hB wW.out.lt;have v5:w6.cell? ⟨g5,0,none⟩=some .nilIface:=hb5.at 0 _ rfl;have f5:=hb5.free 0;have l5:=hb5.lt;have wY:=qh hb5;have yQ:=qh (And.intro hga (And.intro hgl (And.intro hab hro)));have Dz:=qh hB;clear hga hgl hab hro hB hb5)
 have rZ:Touch (fun x=>x=g5) w6 (w6.setCell ⟨g5,0,none⟩ .nilIface):=Touch.Dc (R:=fun x=>x=g5) (p:=⟨g5,0,none⟩) rfl
 have hb5:AP (w6.setCell ⟨g5,0,none⟩ .nilIface) g5 #[.nilIface] 40:=wY.out.set 0 _
 have hs5:=CE.out.size
 have hs6:=Dz.out.size
 have nC:Bn w6 w2.heap.size a img gl 7 c 0 Fs:=⟨yQ.out.2.2.1,wX.out.below' Dz.out,yQ.out.2.2.2.mono (by have:=yP.out;omega),by have:=yQ.out.1;have:=yP.out;omega,yQ.out.2.1⟩
 have dB:=nC.touch rZ wY.out (by decide) (by decide) (by decide) (by decide)
 have yX:7≤c:=by
  obtain ⟨A9,c9,e9,h9⟩:=DJ yQ.out.2.2.2
  injection e9 with _ _ e9
  omega
 have hb2:AP (w6.setCell ⟨g5,0,none⟩ .nilIface) g2 #[.int .i64 0,.int .i64 0,.int .i64 1,.int .i64 0,.slice none 0 0] 45:=(rZ.block (Nat.lt_of_lt_of_le Ma.out.lt hs6) bV.out.2.2.2.2.1).trans (Ma.out.below Dz.out Ma.out.lt)
 have hb4:AP (w6.setCell ⟨g5,0,none⟩ .nilIface) g4 #[.pointer (some ⟨img,0,none⟩)] 24:=(rZ.block (Nat.lt_of_lt_of_le Q4.out.lt hs6) bV.out.2.2.2.2.2).trans (Q4.out.below Dz.out Q4.out.lt)
 have fM:(w6.setCell ⟨g5,0,none⟩ .nilIface).heap.size=w6.heap.size:=by simp
 have Ff:Below w.heap.size w (w6.setCell ⟨g5,0,none⟩ .nilIface):=((CL.out.trans (CE.out.mono CL.out.size)).trans (Dz.out.mono (Nat.le_trans CL.out.size hs5))).setCell bV.out.2.2.1 _
 clear v5 f5 l5 v4 rZ wY yQ xu wX Ma Q4 wW
 generalize w6.setCell ⟨g5,0,none⟩ .nilIface=w7 at *
 have ADo:=qh hb2
 have wZ:=qh hb4
 have wh:=qh hb5
 have Ew:=qh Ff
 have Ny:Hid (Calls Tryz.prog 41 #[.agg #[.pointer (some ⟨a,0,none⟩)],.agg #[.int .i64 0,.int .i64 0,.int .i64 1,.int .i64 0,.slice none 0 0]] w7 fun e w'=>e=.returned (.tuple #[])∧Bo w' w2.heap.size img rX∧Touch (Cg w7 a img) w7 w'):=pE w7 w2.heap.size a img gl c dB yX (by have:=yP.out;omega)
 have Nv:=qh (Dp dB hb4 (by decide) (by decide))
 have Nw:=qh (Dp dB hb5 (by decide) (by decide))
 have xn:Hid (∀ x,Cg w7 a img x→w.heap.size≤x):=fun x hx=>by
  have hw2:w.heap.size≤w2.heap.size:=by have:=HB1.out.size;have:=yP.out;omega
  rcases hx with e|hx
  · have:=dB.2.2.2.1;rw [e];omega
  · obtain ⟨cs,_,h9⟩:=JR dB.2.1 x hx
    omega
 obtain ⟨x0,x1,x2,x3,x4⟩:=Cc hb2
 have x5:w7.cell? ⟨g5,0,none⟩=some .nilIface:=hb5.at 0 _ rfl
 clear hb2 hb4 hb5 Ff hs5 hs6 nC dB yX fM
 go_upto_region 13 with (first
  | (go_at_call 40;(with_reducible refine (rQ.out _).mono ?_);rintro e w8 ⟨rfl,hw⟩;rw [hw];clear hw w8)
  | (go_at_call 41;(with_reducible refine Ny.out.mono ?_);rintro e w8 ⟨rfl,ho,hT⟩;have Ie:=qh ho;have Q0:=qh hT;clear ho hT))
 rename World=>w8
 have Q6:Hid (AP w8 g4 _ _):=(Q0.out.block wZ.out.lt Nv.out).trans wZ.out
 have jm:Hid (AP w8 g5 _ _):=(Q0.out.block wh.out.lt Nw.out).trans wh.out
 have y4:w8.cell? ⟨g4,0,none⟩=some (.pointer (some ⟨img,0,none⟩)):=Q6.out.at 0 _ rfl
 have y5:w8.cell? ⟨g5,0,none⟩=some .nilIface:=jm.out.at 0 _ rfl
 have e4:=Q6.out.free 0
 have e5:=jm.out.free 0
 have m4:=Q6.out.lt
 have m5:=jm.out.lt
 have hne:g4≠g5:=bV.out.2.2.2.2.2
 clear x0 x1 x2 x3 x4 x5 Ny
 go_wp2_with fail
 have hbt:=aG.out
 have hzz:=yP.out
 have hTa:Touch (fun x=>x=g4) w8 (w8.setCell ⟨g4,0,none⟩ (.pointer (some ⟨img,0,none⟩))):=Touch.Dc (R:=fun x=>x=g4) (p:=⟨g4,0,none⟩) rfl
 have hTb:Touch (fun x=>x=g5) (w8.setCell ⟨g4,0,none⟩ (.pointer (some ⟨img,0,none⟩))) ((w8.setCell ⟨g4,0,none⟩ (.pointer (some ⟨img,0,none⟩))).setCell ⟨g5,0,none⟩ .nilIface):=Touch.Dc (R:=fun x=>x=g5) (p:=⟨g5,0,none⟩) rfl
 have kP:=(Ie.out.Xz hTa (by omega)).Xz hTb (by omega)
 have ha9:AP ((w8.setCell ⟨g4,0,none⟩ (.pointer (some ⟨img,0,none⟩))).setCell ⟨g5,0,none⟩ .nilIface) g4 #[.pointer (some ⟨img,0,none⟩)] 24:=(Q6.out.set 0 (.pointer (some ⟨img,0,none⟩))).far (fun e=>hne e.symm) 0 _
 have I6:AP ((w8.setCell ⟨g4,0,none⟩ (.pointer (some ⟨img,0,none⟩))).setCell ⟨g5,0,none⟩ .nilIface) g5 #[.nilIface] 40:=(jm.out.far hne 0 _).set 0 _
 have Mg:Below w.heap.size w ((w8.setCell ⟨g4,0,none⟩ (.pointer (some ⟨img,0,none⟩))).setCell ⟨g5,0,none⟩ .nilIface):=((Ew.out.trans (Q0.out.below xn.out Ew.out.size)).setCell bV.out.2.1 _).setCell bV.out.2.2.1 _
 have hw2:w.heap.size≤w2.heap.size:=by have:=HB1.out.size;omega
 clear y4 y5 e4 e5 m4 m5 hbt hzz hTa hTb rT
 generalize (w8.setCell ⟨g4,0,none⟩ (.pointer (some ⟨img,0,none⟩))).setCell ⟨g5,0,none⟩ .nilIface=w9 at *
 refine leaves_cons (f:=35) (args:=#[.pointer (some ⟨g4,0,none⟩),.pointer (some ⟨g5,0,none⟩)]) (by simp) (by simp [go_sem]) ?_
 refine (pF g4 g5 _).mono ?_
 rintro e u' CW ⟨rfl,rfl,I4⟩
 have c4:CW.cell? ⟨g4,0,none⟩=some (.pointer (some ⟨img,0,none⟩)):=(ha9.below I4 ha9.lt).at 0 _ rfl
 have c5:CW.cell? ⟨g5,0,none⟩=some .nilIface:=(I6.below I4 I6.lt).at 0 _ rfl
 have hfin:(∃ a,Ending.returned (.tuple #[.pointer (some ⟨img,0,none⟩),.nilIface])=.returned (.tuple #[.pointer (some ⟨a,0,none⟩),.nilIface])∧Bo CW w.heap.size a rX)∧Below w.heap.size w CW:=⟨⟨img,rfl,(kP.below' I4).low hw2⟩,Mg.trans (I4.mono Mg.size)⟩
 have Rj:=qh hfin
 clear kP ha9 I6 Mg hw2 I4 hfin hne Q6 jm Q0 Ie xn Nv Nw Ew ADo wZ wh yP bV aG rQ CL CE Dz HB1 HB2 HB3 iy bU HK5
 refine Xy (R:=fun e w'=>(∃ a,e=.returned (.tuple #[.pointer (some ⟨a,0,none⟩),.nilIface])∧Bo w' w.heap.size a rX)∧Below w.heap.size w w') Tryz.results17 rfl rfl c4 c5 Rj.out
end
section
open Go.RowKit Go.Shelf
def Je:List Value:=List.replicate 1024 (Value.int .u8 0)
theorem kH:Je=AB Au FL:=by
 unfold Je FL
 rw [Bu,List.map_replicate]
 rfl
theorem kI (w:World):(Instr.makeSlice 22 (.int .i64 1024) (.int .i64 1024)).run Tryz.prog w=.ok (.slice (some ⟨w.heap.size,0,none⟩) 1024 1024) (w.alloc (.cells Je.toArray 5)):=by
 have h:=run_make_row' (P:=Tryz.prog) 22 5 (.int .u8 0) 1 Tryz.underlying22 (by kernel_rfl) rfl .i64 .i64 1024 (by omega) (by omega) w
 have hmz:(madeCells #[Value.int .u8 0] 1024)=Je.toArray:=by
  rw [← Array.toArray_toList (xs:=madeCells #[Value.int .u8 0] 1024),toList_madeCells_one]
  rfl
 rw [hmz] at h
 exact h
theorem GR {w:World} {base a:Nat} {bs:List UInt8} (h:Bo w base a bs):Cj w (fun b=>b<w.heap.size) a bs:=h.is (fun b _ hb=>hb)
theorem xJ (w:World):Calls Tryz.prog 6 #[.slice (some ⟨w.heap.size,0,none⟩) 1024 1024] (w.alloc (.cells Je.toArray 5)) fun e w'=>(∃ a,e=.returned (.pointer (some ⟨a,0,none⟩))∧Bo w' w.heap.size a FL)∧Below w.heap.size w w':=by
 have hb:=AP.new w Je.toArray 5
 have hB:Below w.heap.size w (w.alloc (.cells Je.toArray 5)):=(Below.refl _ _).alloc (Nat.le_refl _) _
 have hr:(w.alloc (.cells Je.toArray 5)).ownsRow 0 5 1 (.slice (some ⟨w.heap.size,0,none⟩) 1024 1024) 1024 (AB Au FL):=by
  rw [← kH]
  exact ⟨by unfold Je;rw [List.length_replicate],.inr ⟨w.heap.size,1024,_,rfl,Nat.zero_le _,hb,Nat.le_refl _,by decide,by unfold Je;rw [List.size_toArray,List.length_replicate],by rw [List.toList_toArray,List.take_of_length_le (by unfold Je;rw [List.length_replicate];decide)]⟩⟩
 refine (NQ _ (fun b=>b<(w.alloc (.cells Je.toArray 5)).heap.size) _ FL (fun b hb=>hb) (Gi hr (by rw [NC])) (by rw [NC];decide)).mono ?_
 rintro e w' ⟨a,rfl,ho,hB'⟩
 rw [X3] at ho
 exact ⟨⟨a,rfl,ho.low hB.size⟩,hB.trans (hB'.mono hB.size)⟩
set_option maxRecDepth 100000 in
theorem pW (w:World):Calls Tryz.prog 5 #[] w fun e w'=>e=.returned (.bool true)∧Below w.heap.size w w':=by
 have dY:=qh (wU w)
 rw [wO] at dY
 unfold Fz at dY
 have HPZ:Hid (∀ w' a,Bo w' w'.heap.size a FL∨True→Cj w' (fun b=>b<w'.heap.size) a FL→Calls Tryz.prog 15 #[.pointer (some ⟨a,0,none⟩),.int .i64 9] w' fun e w''=>(∃ A c,e=.returned (.slice A 0 c))∧Below w'.heap.size w' w''):=fun w' a _ hi=>by
  refine (kD w' _ a FL 9 (fun b hb=>hb) hi (by rw [NC];decide) (by decide) (by rw [pK];decide) ww).mono ?_
  rintro e w'' ⟨rfl,hB⟩
  exact ⟨⟨_,_,rfl⟩,hB⟩
 have Jn:Hid (∀ w' a,Cj w' (fun b=>b<w'.heap.size) a Gy→Calls Tryz.prog 15 #[.pointer (some ⟨a,0,none⟩),.int .i64 9] w' fun e w''=>(∃ A c,e=.returned (.slice A 1 c))∧Below w'.heap.size w' w''):=fun w' a hi =>
  kF w' _ a Gy 9 (fun b hb=>hb) hi (by rw [QQ];decide) (by decide) dD ⟨dE,dF,dG,dH⟩ Vo Vp
 have Vt:Hid (∀ w' a,Cj w' (fun b=>b<w'.heap.size) a Gy→Calls Tryz.prog 9 #[.pointer (some ⟨a,0,none⟩),.int .i64 9] w' fun e w''=>(∃ A c,e=.returned (.slice A 1 c))∧Below w'.heap.size w' w''):=fun w' a hi=>by
  refine (Vr w' _ a Gy 9 (fun b hb=>hb) hi (by rw [QQ];decide) (by decide)).mono ?_
  rintro e w'' ⟨⟨A,c,rfl,-⟩,hB⟩
  exact ⟨⟨A,c,by rw [Vo];rfl⟩,hB⟩
 have WK:Hid (∀ w' a,Cj w' (fun b=>b<w'.heap.size) a Gy→Calls Tryz.prog 11 #[.pointer (some ⟨a,0,none⟩),.int .i64 9] w' fun e w''=>(∃ A c,e=.returned (.slice A 1 c))∧Below w'.heap.size w' w''):=fun w' a hi=>by
  refine (Nk w' _ a Gy 9 (fun b hb=>hb) hi (by rw [QQ];decide) (by decide)).mono ?_
  rintro e w'' ⟨⟨A,c,rfl,-⟩,hB⟩
  exact ⟨⟨A,c,by rw [Vp];rfl⟩,hB⟩
 have o7:=qh (fun w'=>xJ w')
 go_enter Tryz.func5,Tryz.ntmps5
 go_upto_region 2 with (go_at_call 17;(with_reducible refine dY.out.mono ?_);rintro e w1 ⟨⟨img,rfl,ho⟩,hB⟩;have HO:=qh ho;have HB1:=qh hB;clear ho hB)
 rename World=>w1
 have hmk:=kI w1
 have ADu:=qh (o7.out w1)
 clear dY o7
 go_wp2_with (first
  | (go_at_call 6;(with_reducible refine ADu.out.mono ?_);rintro e w2 ⟨⟨a1,rfl,ho⟩,hB⟩;have QX:=qh ho;have HB2:=qh hB;have ABj:=qh (HPZ.out w2 a1 (.inr trivial) (GR ho));clear ho hB)
  | (go_at_call 15;(with_reducible refine ABj.out.mono ?_);rintro e w3 ⟨⟨A3,c3,rfl⟩,hB⟩;have HB3:=qh hB;have EE:Hid (Below w1.heap.size w1 w3):=HB2.out.trans (HB3.out.mono HB2.out.size);have ABk:=qh (Jn.out w3 img (GR (HO.out.below' EE.out)));clear hB ABj)
  | (go_at_call 15;(with_reducible refine ABk.out.mono ?_);rintro e w4 ⟨⟨A4,c4,rfl⟩,hB⟩;have M5:Hid (Below w1.heap.size w1 w4):=EE.out.trans (hB.mono EE.out.size);have ABl:=qh (Vt.out w4 img (GR (HO.out.below' M5.out)));clear hB ABk)
  | (go_at_call 9;(with_reducible refine ABl.out.mono ?_);rintro e w5 ⟨⟨A5,c5,rfl⟩,hB⟩;have ik:Hid (Below w1.heap.size w1 w5):=M5.out.trans (hB.mono M5.out.size);have ABm:=qh (WK.out w5 img (GR (HO.out.below' ik.out)));clear hB ABl)
  | (go_at_call 11;(with_reducible refine ABm.out.mono ?_);rintro e w6 ⟨⟨A6,c6,rfl⟩,hB⟩;have oO:Hid (Below w1.heap.size w1 w6):=ik.out.trans (hB.mono ik.out.size);clear hB ABm))
 refine bodyPost_ret (v:=.bool true) (by simp [results,Tryz.results5,go_sem]) rfl ⟨rfl,HB1.out.trans (oO.out.mono HB1.out.size)⟩
end
section
open Go.RowKit Go.Shelf
theorem kJ (l:List UInt8):(l.take (Bc l.length*256)).length / 256=Bc l.length:=by
 rw [List.length_take,Nat.min_eq_left (LC l.length).1]
 omega
theorem X9 (l:List UInt8):chunk l (Bc l.length)=chunk (l.take (Bc l.length*256)) ((l.take (Bc l.length*256)).length / 256):=by
 rw [kJ]
 unfold chunk
 apply List.map_congr_left
 intro i hi
 have hi:=List.mem_range.1 hi
 have e:i*256+256≤Bc l.length*256:=by
  have:=Nat.mul_le_mul_right 256 (show i+1≤Bc l.length from hi)
  omega
 unfold IB
 rw [List.drop_take,List.take_take,Nat.min_eq_left (by omega)]
theorem SB (w:World) (b1 b2 n c1 c2:Nat) (A1 A2:Option Addr) (l:List Int) (hn:l.length=n) (hk:n≤140737488355328) (h1:w.ownsRow b1 3 1 (.slice A1 n c1) n (AB encI l)) (h2:w.ownsRow b2 3 1 (.slice A2 n c2) n (AB encI l)) :
 Calls Tryz.prog 8 #[.slice A1 n c1,.slice A2 n c2] w fun e w'=>e=.returned (.bool true)∧Below w.heap.size w w':=by
 subst hn
 refine (Za w (fun b=>b<w.heap.size) _ _ l l ((CF.own Bh h1 (by omega)).sub (AA _) (fun b hb=>hb.2)) ((CF.own Bh h2 (by omega)).sub (AA _) (fun b hb=>hb.2)) hk).mono ?_
 rintro e w' ⟨rfl,m,rfl⟩
 exact ⟨by rw [decide_eq_true rfl],(Touch.drewN (R:=fun _=>False) m).below (fun x h=>h.elim) (Nat.le_refl _)⟩
theorem QT {w:World} {base a:Nat} {bs:List UInt8} (h:EJ w base a (chunk bs (bs.length / 256))):Hq w (fun b=>b<w.heap.size) a bs:=h.is (fun b _ hb=>hb)
theorem EJ.below' {w w':World} {base a:Nat} {B:List (List UInt8)} (h:EJ w base a B) (hB:Below w.heap.size w w'):EJ w' base a B:=h.below hB (Nat.le_refl _)
set_option maxRecDepth 100000 in
theorem QU (w:World) (S:Nat→Prop) (v:Value) (l:List UInt8) (fuel:Int) (hS:∀ b,S b→b<w.heap.size) (h:AX w S v l) (hn:l.length≤140737488355328) :
 Calls Tryz.prog 3 #[v,.int .i64 fuel] w fun e w'=>e=.returned (.bool true)∧Below w.heap.size w w':=by
 have qB:=qh (fun w'=>pW w')
 by_cases hbig:13000<l.length
 · obtain ⟨A,c,rfl,hc,-⟩:=h
   have hbi:(13000:Int)<(l.length:Int):=by omega
   clear hS hc hbig hn
   generalize l.length=n at *
   go_enter Tryz.func3,Tryz.ntmps3
   go_wp2_with (go_at_call 5;(with_reducible refine (qB.out _).mono ?_);rintro e w2 ⟨rfl,hB⟩;have HB2:=qh hB;clear hB)
   refine bodyPost_ret (v:=.bool true) (by simp [results,Tryz.results3,go_sem]) rfl ⟨rfl,HB2.out⟩
 · have o7:=qh (NQ w S v l hS h hn)
   have HRO:=qh (fun w' (hB:Below w.heap.size w w')=>WJ w' S v l (fun b hb=>Nat.lt_of_lt_of_le (hS b hb) hB.size) (h.keep (AA _) (fun _ h=>h) (AL hB hS)) hn)
   have hch:=X9 l
   have hbl:(l.take (Bc l.length*256)).length≤13000:=by rw [List.length_take];omega
   rw [hch] at HRO
   obtain ⟨bs,hbs⟩:∃ x,l.take (Bc l.length*256)=x:=⟨_,rfl⟩
   rw [hbs] at o7 HRO hbl
   obtain ⟨A,c,rfl,hc,-⟩:=h
   have hsm:¬ (13000:Int)<(l.length:Int):=by omega
   have IX:=qh hbl
   clear hS hc hbig hn hch hbs hbl
   generalize l.length=n at *
   obtain ⟨f,hf⟩:∃ f,min fuel 100=f:=⟨_,rfl⟩
   have HF:Hid (f≤9999999):=by show _≤_;omega
   have pQ:=qh (fun w' a (hi:Cj w' (fun b=>b<w'.heap.size) a bs)=>Vr w' _ a bs f (fun b hb=>hb) hi (by have:=IX.out;omega) HF.out)
   have HDT:=qh (fun w' a (hi:Cj w' (fun b=>b<w'.heap.size) a bs)=>Nk w' _ a bs f (fun b hb=>hb) hi (by have:=IX.out;omega) HF.out)
   have lU:=qh (fun w' a (hi:Hq w' (fun b=>b<w'.heap.size) a bs)=>dC w' _ a bs f (fun b hb=>hb) hi (by have:=IX.out;omega) HF.out)
   have Lc:=qh (fun w' a (hi:Hq w' (fun b=>b<w'.heap.size) a bs)=>OD w' _ a bs f (fun b hb=>hb) hi (by have:=IX.out;omega) HF.out)
   go_enter Tryz.func3,Tryz.ntmps3
   go_upto_region 3 with fail
   go_cut [1] (fun s1 wx=>s1=.int .i64 f∧wx=w)
   case first =>
    have HE:=qh hf
    clear hf
    go_wp2_with fail
    go_meet
    exact ⟨by rw [HE.out],rfl⟩
   obtain ⟨h1,hw⟩:=hcut
   obtain rfl:=h1.symm
   rw [hw]
   clear h1 hw
   go_upto_region 5 with (first
    | (go_at_call 6;(with_reducible refine o7.out.mono ?_);rintro e w2 ⟨a1,rfl,ho,hB⟩;have HI2:=qh ho;have HB2:=qh hB;clear ho hB)
    | (go_at_call 7;(with_reducible refine (HRO.out w2 HB2.out).mono ?_);rintro e w3 ⟨a2,rfl,ho,hB⟩;have HR3:=qh ho;have HB3:=qh hB;clear ho hB))
   rename World=>w3
   have HI3:=qh (HI2.out.below' HB3.out)
   have ABn:=qh (pQ.out w3 a1 (GR HI3.out))
   have ABo:Hid (Below w.heap.size w w3):=HB2.out.trans (HB3.out.mono HB2.out.size)
   have Vt:Hid ((Ck bs f (bs.length / 256-1)).length≤140737488355328):=by
    show _≤_
    have:=Mc bs f (bs.length / 256-1)
    have:=IX.out
    omega
   have WK:Hid ((Cs bs f (bs.length / 256-1)).length≤140737488355328):=by
    show _≤_
    have:=Md bs f (bs.length / 256-1)
    have:=IX.out
    omega
   clear o7 HRO HI2 hf hsm pQ IX
   generalize Ck bs f (bs.length / 256-1)=TL at *
   generalize Cs bs f (bs.length / 256-1)=DL at *
   go_wp2_with (first
    | (go_at_call 9;(with_reducible refine ABn.out.mono ?_);rintro e w4 ⟨⟨A4,c4,rfl,ho⟩,hB⟩;have dW:=qh ho;have ABp:=qh hB;have ABq:=qh (lU.out w4 a2 (QT (HR3.out.below' hB)));clear ho hB ABn)
    | (go_at_call 10;(with_reducible refine ABq.out.mono ?_);rintro e w5 ⟨⟨A5,c5,rfl,ho⟩,hB⟩;have ABr:=qh (SB w5 _ _ _ c4 c5 A4 A5 TL rfl Vt.out (own_below dW.out hB (Nat.le_refl _)) ho);have ABs:Hid (Below w3.heap.size w3 w5):=ABp.out.trans (hB.mono ABp.out.size);clear ho hB ABq dW)
    | (go_at_call 8;(with_reducible refine ABr.out.mono ?_);rintro e w6 ⟨rfl,hB⟩;have Xc:Hid (Below w3.heap.size w3 w6):=ABs.out.trans (hB.mono ABs.out.size);have ABt:=qh (HDT.out w6 a1 (GR (HI3.out.below' Xc.out)));clear hB ABr)
    | (go_at_call 11;(with_reducible refine ABt.out.mono ?_);rintro e w7 ⟨⟨A7,c7,rfl,ho⟩,hB⟩;have Zv:=qh ho;have xK:Hid (Below w3.heap.size w3 w7):=Xc.out.trans (hB.mono Xc.out.size);have ABu:=qh (Lc.out w7 a2 (QT (HR3.out.below' xK.out)));clear ho hB ABt)
    | (go_at_call 12;(with_reducible refine ABu.out.mono ?_);rintro e w8 ⟨⟨A8,c8,rfl,ho⟩,hB⟩;have ABv:=qh (SB w8 _ _ _ c7 c8 A7 A8 DL rfl WK.out (own_below Zv.out hB (Nat.le_refl _)) ho);have ABw:Hid (Below w3.heap.size w3 w8):=xK.out.trans (hB.mono xK.out.size);clear ho hB ABu Zv)
    | (go_at_call 8;(with_reducible refine ABv.out.mono ?_);rintro e w9 ⟨rfl,hB⟩;have ABx:Hid (Below w3.heap.size w3 w9):=ABw.out.trans (hB.mono ABw.out.size);clear hB ABv)
    | (go_at_call 5;(with_reducible refine (qB.out _).mono ?_);rintro e CW ⟨rfl,hB⟩;have ABy:Hid (Below w3.heap.size w3 CW):=ABx.out.trans (hB.mono ABx.out.size);clear hB))
   refine bodyPost_ret (v:=.bool true) (by simp [results,Tryz.results3,go_sem]) rfl ⟨rfl,ABo.out.trans (ABy.out.mono ABo.out.size)⟩
end
end Go.Proofs.YtpenklpdjpkigaaGreat
