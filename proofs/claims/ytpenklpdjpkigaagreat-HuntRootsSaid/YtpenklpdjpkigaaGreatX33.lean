/- A part of the proof: WSlotsPut, WPlotLay, WPlotLay1, WPlotData, WPlotMeta, Img8. -/
import Derived.Test.YtpenklpdjpkigaaGreatY14
import Derived.Test.YtpenklpdjpkigaaGreatX28
import Derived.Test.YtpenklpdjpkigaaGreatX5
import Derived.Test.YtpenklpdjpkigaaGreatY5
import Derived.Test.YtpenklpdjpkigaaGreatX15
import Derived.Test.YtpenklpdjpkigaaGreatX32
import Derived.Test.YtpenklpdjpkigaaGreatX17
import Derived.Test.YtpenklpdjpkigaaGreatY1
set_option maxHeartbeats 6400000
set_option linter.unusedVariables false
set_option linter.unusedSimpArgs false
namespace Go.Proofs.YtpenklpdjpkigaaGreat
section
open Go.RowKit Go.Shelf
def KL:List (Nat × Int):=[(4,1)]
theorem bg:∀ f∈KL,FX f:=by
 intro f hf
 simp only [KL,List.mem_cons,List.not_mem_nil,or_false] at hf
 subst hf
 exact ⟨.inr (.inr (.inl rfl)),by decide,by decide,.inr (by decide)⟩
theorem ol (w:World):Calls Tryz.prog 135 #[.slice (some ⟨w.heap.size,0,none⟩) 1 1] (w.alloc (.cells #[.int .i64 4,.int .i64 1] 249)) fun e w'=>(∃ A c,e=.returned (.tuple #[.slice A 4 c,.int .i64 0])∧w'.ownsRow w.heap.size 5 1 (.slice A 4 c) 4 (AB Au (BB KL)))∧Below w.heap.size w w':=by
 have b16:=heap_alloc_new w (.cells #[.int .i64 4,.int .i64 1] 249)
 have h9:=J6 (w.alloc (.cells #[.int .i64 4,.int .i64 1] 249)) _ (.slice (some ⟨w.heap.size,0,none⟩) 1 1) KL (fun b hb=>hb) (LV (fs:=KL) b16 (by decide)) bg (by decide)
 refine h9.mono ?_
 rintro e w' ⟨⟨A,c,rfl,ho⟩,hB⟩
 have hB1:Below w.heap.size w (w.alloc (.cells #[.int .i64 4,.int .i64 1] 249)):=(Below.refl _ _).alloc (Nat.le_refl _) _
 exact ⟨⟨A,c,rfl,ho.mono hB1.size⟩,hB1.trans (hB.mono hB1.size)⟩
def Ih (sb:List UInt8):List UInt8:=BB KL++sb++List.replicate 224 0
theorem Tp (sb:List UInt8):AB Au (BB KL)++AB Au sb++List.replicate 224 (Value.int .u8 0)=AB Au (Ih sb):=by
 unfold Ih
 have h:AB Au (List.replicate 224 0)=List.replicate 224 (Value.int .u8 0):=by
  rw [Bu,List.map_replicate]
  rfl
 rw [Ba,Ba,h]
set_option maxRecDepth 100000 in
theorem bi (w:World) (g c:Nat) (b f s:Int) (sb:List UInt8) (hsb:IR Jt [b,f,s]=sb) (hl:sb.length=16) (hg:g<w.heap.size) (h0:w.cell? ⟨g,0,none⟩=some (.int .i64 b)) (h1:w.cell? ⟨g,1,none⟩=some (.int .i64 f)) (h2:w.cell? ⟨g,2,none⟩=some (.int .i64 s)) :
 Calls Tryz.prog 130 #[.slice (some ⟨g,0,none⟩) 1 c] w fun e w'=>(∃ A c',e=.returned (.tuple #[.slice A 244 c',.int .i64 0])∧w'.ownsRow w.heap.size 5 1 (.slice A 244 c') 244 (AB Au (Ih sb)))∧Below w.heap.size w w':=by
 have Wl:=qh (ol w)
 have uR:=qh (fun w'=>Z0 w' b f s)
 rw [hsb] at uR
 have HCE:Hid (∀ w',Below w.heap.size w w'→w'.cell? ⟨g,0,none⟩=some (.int .i64 b)∧w'.cell? ⟨g,1,none⟩=some (.int .i64 f)∧w'.cell? ⟨g,2,none⟩=some (.int .i64 s)):=fun w' hB=>⟨AQ hB hg h0,AQ hB hg h1,AQ hB hg h2⟩
 have dR:Hid ((Am sb).size=16):=by show _=_;rw [ER,hl]
 have qP:=qh (Qe sb)
 have HFN:=qh (Tp sb)
 have hne:(Am sb).toList.isEmpty=false:=by
  rw [Iu]
  cases sb with
  | nil=>cases hl
  | cons a l=>rfl
 obtain ⟨st,hst⟩:∃ q,Am sb=q:=⟨_,rfl⟩
 rw [hst] at uR dR qP hne
 clear hsb hl hg h0 h1 h2 hst
 generalize AB Au (Ih sb)=fin at *
 generalize AB Au (BB KL)=pk at *
 generalize AB Au sb=sc at *
 go_enter Tryz.func130,Tryz.ntmps130
 go_upto_region 4 with (go_at_call 135;(with_reducible refine Wl.out.mono ?_);rintro e w2 ⟨⟨A4,c4,rfl,oW⟩,hB2⟩;have dW:=qh oW;have HB2:=qh hB2;clear oW hB2)
 rename World=>w2
 clear Wl
 go_upto_region 5 with fail
 go_loopw [4,22] (fun v4 vi wr=>(vi=.int .i64 0∧v4=.slice A4 4 c4∧wr=w2)∨(vi=.int .i64 1∧∃ A7 c7,v4=.slice A7 20 c7∧Hid (wr.ownsRow w.heap.size 5 1 (.slice A7 20 c7) 20 (pk++sc))∧Hid (Below w.heap.size w wr))) (fun _ vi _=>1-(intOf vi).toNat)
 case atStart=>exact .inl ⟨rfl,rfl,rfl⟩
 case round =>
  rcases hrel with ⟨rfl,rfl,hwr⟩|⟨rfl,A7,c7,rfl,Zv,Ew⟩
  · rw [hwr]
    clear hwr wr
    obtain ⟨x0,x1,x2⟩:=HCE.out w2 HB2.out
    go_upto_region 7 with fail
    have hB3:Below w2.heap.size w2 (w2.alloc (.cells #[.int .i64 b,.int .i64 f,.int .i64 s] 230)):=(Below.refl _ _).alloc (Nat.le_refl _) _
    have hbx:=AP.new w2 #[.int .i64 b,.int .i64 f,.int .i64 s] 230
    generalize w2.alloc (.cells #[.int .i64 b,.int .i64 f,.int .i64 s] 230)=w3 at *
    have y0:=hbx.at 0 _ rfl
    have y1:=hbx.at 1 _ rfl
    have y2:=hbx.at 2 _ rfl
    have HB3:=qh hB3
    clear hbx hB3 x0 x1 x2
    go_upto_region 8 with (go_at_call 120;(with_reducible refine (uR.out _).mono ?_);rintro e w4 ⟨rfl,hB4⟩;have CL:=qh hB4;clear hB4)
    rename World=>w4
    have M9:Hid (Below w2.heap.size w2 w4):=HB3.out.trans (CL.out.mono HB3.out.size)
    have Tq:Hid (Below w.heap.size w w4):=HB2.out.trans (M9.out.mono HB2.out.size)
    have Jb:=qh (own_below dW.out M9.out (Nat.le_refl _))
    clear y0 y1 y2 uR HCE
    obtain ⟨i0,hi0,hz0,hz1,hz2⟩:=info_parts KQ
    go_wp2_with (at_builtin;go_loud (refine Lib.wpList_append_own_string _ rfl _ _ _ _ rfl w.heap.size 5 i0 Tryz.underlying22 Tryz.underlying9 hi0 hz0 hz1 hz2 (.slice A4 4 c4) 4 pk rfl Jb.out st rfl (by rw [dR.out];decide) (by rw [dR.out];decide) Tq.out.size ?_);intro v7 w7 Ku G8 dP;rw [dR.out,qP.out] at Ku;obtain ⟨A7,c7,rfl,yX⟩:=DJ Ku;have Zv:=qh Ku;have Ew:Hid (Below w.heap.size w w7):=Tq.out.grown G8 Tq.out.size (fun k e=>(Jb.out.lt k e).1);clear Ku G8 dP)
    go_roundw
    case rel=>exact .inr ⟨rfl,A7,c7,rfl,Zv,Ew⟩
    case measure=>simp [intOf]
  · obtain ⟨i0,hi0,hz0,hz1,hz2⟩:=info_parts KQ
    obtain ⟨g7,hA7,-,-,-⟩:=CG Zv.out (by omega)
    subst hA7
    obtain ⟨g8,c8,w8,zO,kY,E5⟩:=J9 (P:=Tryz.prog) wr w.heap.size 22 3 22 5 i0 .i64 Tryz.underlying22 Tryz.underlying3 hi0 hz0 hz1 hz2 g7 20 c7 (pk++sc) Zv.out 224 (by omega) (by omega) (by omega) Ew.out.size
    rw [HFN.out] at kY
    have Ie:=qh kY
    have KZ:Hid (Below w.heap.size w w8):=Ew.out.grown E5 Ew.out.size (fun k e=>(Zv.out.lt k (by rw [← e];rfl)).1)
    clear kY E5 hi0 hz0 hz1 hz2
    have HR8:=qh zO
    clear zO
    go_wp2_with (at_builtin;go_loud (refine Lib.wpList_append_run _ rfl _ _ _ _ rfl _ _ rfl rfl _ _ HR8.out ?_))
    refine bodyPost_ret (v:=.tuple #[.slice (some ⟨g8,0,none⟩) 244 c8,.int .i64 0]) (by simp [results,Tryz.results130,go_sem]) rfl ⟨⟨_,_,rfl,Ie.out⟩,KZ.out⟩
end
section
open Go.RowKit Go.Shelf
theorem jc (w:World) (a c:Value):Calls Tryz.prog 118 #[a,.slice none 0 0,c] w fun e w'=>e=.returned .nilIface∧w'=w:=by
 go_enter Tryz.func118,Tryz.ntmps118
 go_wp2_with fail
 go_loopw [17] (fun vi wr=>vi=.int .i64 0∧wr=w) (fun vi _=>1)
 case atStart=>exact ⟨rfl,rfl⟩
 case round =>
  obtain ⟨rfl,hwr⟩:=hrel
  rw [hwr]
  clear hwr wr
  go_wp2_with fail
  refine bodyPost_ret (v:=.nilIface) (by simp [results,Tryz.results118,go_sem]) rfl ⟨rfl,rfl⟩
theorem bu:(Tryz.prog.info? 230).map (fun i=>(i.zero,i.size,i.bytes))=some (some (.agg #[.int .i64 0,.int .i64 0,.int .i64 0]),3,24):=by kernel_rfl
def Ka (w w':World) (gb:Nat) (no f s:Int):Prop:=∃ gs cs,AP w' gb #[.slice (some ⟨gs,0,none⟩) 1 cs] 245∧w.heap.size≤gs∧gs<w'.heap.size∧w'.cell? ⟨gs,0,none⟩=some (.int .i64 no)∧w'.cell? ⟨gs,1,none⟩=some (.int .i64 f)∧w'.cell? ⟨gs,2,none⟩=some (.int .i64 s)
set_option maxRecDepth 100000 in
theorem om (w:World) (gb:Nat) (no f s:Int) (hb:AP w gb #[.slice none 0 0] 245) :
 Calls Tryz.prog 129 #[.agg #[.int .i64 no,.int .i64 f,.int .i64 s],.pointer (some ⟨gb,0,none⟩)] w fun e w'=>e=.returned (.tuple #[])∧Ka w w' gb no f s∧Touch (fun x=>x=gb) w w':=by
 have hbx:=AP.new w #[.int .i64 no,.int .i64 f,.int .i64 s] 230
 have hBx:Below w.heap.size w (w.alloc (.cells #[.int .i64 no,.int .i64 f,.int .i64 s] 230)):=(Below.refl _ _).alloc (Nat.le_refl _) _
 go_enter Tryz.func129,Tryz.ntmps129
 go_upto_region 1 with fail
 generalize w.alloc (.cells #[.int .i64 no,.int .i64 f,.int .i64 s] 230)=w1 at *
 have hb1:=hb.below hBx hb.lt
 have x0:w1.cell? ⟨w.heap.size,0,none⟩=some (.int .i64 no):=hbx.at 0 _ rfl
 have x1:w1.cell? ⟨w.heap.size,1,none⟩=some (.int .i64 f):=hbx.at 1 _ rfl
 have x2:w1.cell? ⟨w.heap.size,2,none⟩=some (.int .i64 s):=hbx.at 2 _ rfl
 have b0:w1.cell? ⟨gb,0,none⟩=some (.slice none 0 0):=hb1.at 0 _ rfl
 have HB1:=qh hBx
 have YZ:=qh hb1
 have O9:=qh hb.lt
 clear hbx hBx hb hb1
 go_wp2_with (at_builtin;go_loud (refine CK Tryz.underlying245 bu rfl (by omega) (by omega) rfl _ _ rfl w1.heap.size (.slice none 0 0) 0 [] rfl (World.ownsRow_nil _ _ _ _) ⟨w1.heap.size,0,none⟩ 1 1 [.int .i64 no,.int .i64 f,.int .i64 s] rfl (by rfl) (Cm w1 [.int .i64 no,.int .i64 f,.int .i64 s] _) (by intro u hu;simp at hu;rcases hu with rfl|rfl|rfl <;> rfl) (by omega) (by simp) ?_);intro A7 Wm w7 Ku G8;have Zv:=qh Ku;have Ew:Hid (Below w1.heap.size w1 w7):=((Below.refl _ _).alloc (Nat.le_refl _) _).grown G8 (by simp) (fun k e=>by cases e);clear Ku G8;have mr:=qh (YZ.out.below Ew.out YZ.out.lt);have b7:w7.cell? ⟨gb,0,none⟩=some (.slice none 0 0):=mr.out.at 0 _ rfl;have f7:=mr.out.free 0;have l7:=mr.out.lt)
 rename World=>w7
 obtain ⟨gs,hA7,AA5,-,hcs⟩:=CG Zv.out (by omega)
 subst hA7
 have hrl:=Zv.out.lt gs rfl
 have hne:gs≠gb:=fun e=>by have:=O9.out;have:=HB1.out.size;omega
 have hT:Touch (fun x=>x=gb) w7 (w7.setCell ⟨gb,0,none⟩ (.slice (some ⟨gs,0,none⟩) 1 Wm)):=Touch.Dc (R:=fun x=>x=gb) (p:=⟨gb,0,none⟩) rfl
 have hk:∀ o u,w7.cell? ⟨gs,o,none⟩=some u→(w7.setCell ⟨gb,0,none⟩ (.slice (some ⟨gs,0,none⟩) 1 Wm)).cell? ⟨gs,o,none⟩=some u:=fun o u h=>(World.cell?_of_block (a:=⟨gs,o,none⟩) (hT.block hrl.2 hne)).trans h
 have Qm:Below w.heap.size w w7:=HB1.out.trans (Ew.out.mono HB1.out.size)
 have HF:Hid (Ka w (w7.setCell ⟨gb,0,none⟩ (.slice (some ⟨gs,0,none⟩) 1 Wm)) gb no f s∧Touch (fun x=>x=gb) w (w7.setCell ⟨gb,0,none⟩ (.slice (some ⟨gs,0,none⟩) 1 Wm))):=by
  refine ⟨⟨gs,Wm,mr.out.set 0 _,by have:=HB1.out.size;omega,by rw [World.size_setCell];exact hrl.2,hk 0 _ ?_,hk 1 _ ?_,hk 2 _ ?_⟩,(Touch.of_below Qm).trans hT⟩
  · have:=hcs 0 _ rfl;rwa [add_lit] at this
  · have:=hcs 1 _ rfl;rwa [add_lit] at this
  · have:=hcs 2 _ rfl;rwa [add_lit] at this
 refine bodyPost_end (results_none rfl _ _ _) rfl ⟨rfl,HF.out⟩
end
section
open Go.RowKit Go.Shelf
set_option maxRecDepth 100000 in
theorem jd (w:World) (base a img gl n c k:Nat) (bs:List UInt8) (gr cr gi ci gb:Nat) (h:Bn w base a img gl n c k bs) (hk:k<n) (hn:n≤14000) (hj:(k+1)*256+256≤bs.length) (hbl:bs.length≤3686400) (hb:base≤w.heap.size) (hr:w.cell? ⟨gr,0,none⟩=some (.slice (some ⟨gi,0,none⟩) 8 ci)) (hi:gi<w.heap.size) (hc:∀ i,i<8→w.cell? ⟨gi,i,none⟩=some (.int .i64 1)) (hX:AP w gb #[.slice none 0 0] 245) (hN:¬ Cg w a img gi) :
 Calls Tryz.prog 118 #[.pointer (some ⟨a,0,none⟩),.slice (some ⟨gr,0,none⟩) 1 cr,.func (.func 129) #[] #[.pointer (some ⟨gb,0,none⟩)]] w fun e w'=>e=.returned .nilIface∧Bn w' base a img gl n c (k+1) (Jm bs ((k+1:Nat):Int) (Bq 3 (k+1) Fq))∧Ka w w' gb ((k+1:Nat):Int) 0 8∧Touch (fun x=>Cg w a img x∨x=gb) w w':=by
 have dX:=qh (jb w gi ci hi hc)
 have dY:Hid (∀ w2 A6 c6,Below w.heap.size w w2→w2.ownsRow w.heap.size 5 1 (.slice A6 244 c6) 244 (AB Au Fq)→Calls Tryz.prog 131 #[.pointer (some ⟨a,0,none⟩),.int .i64 3,.slice A6 244 c6] w2 fun e w'=>e=.returned (.tuple #[.int .i64 ((k+1:Nat):Int),.nilIface])∧Bn w' base a img gl n c (k+1) (Jm bs ((k+1:Nat):Int) (Bq 3 (k+1) Fq))∧Touch (Cg w a img) w2 w'):=fun w2 A6 c6 hB ho=>by
  have hlt:a<w.heap.size:=AP.lt h.1
  have h9:=jS w2 (C9 w.heap.size w2.heap.size) base a img gl n c k bs 3 (.slice A6 244 c6) Fq (fun b hb=>hb.2) (fun hb=>by have:=hb.1;omega) (h.below hB) hk hn (CF.own D8 ho (by omega)) (by decide) (by omega) (by omega) hj hbl
  refine h9.mono ?_
  rintro e w' ⟨h1,h2,h3⟩
  exact ⟨h1,h2,h3.weak (C8 h.2.1 hB)⟩
 have U9:Hid (∀ w3,(∀ i,i<8→w3.cell? ⟨gi,i,none⟩=some (.int .i64 1))→Calls Tryz.prog 181 #[.slice (some ⟨gi,0,none⟩) 8 ci] w3 fun e w'=>e=.returned (.tuple #[.int .i64 0,.int .i64 8])∧w'=w3):=fun w3 h3 =>
  bY w3 gi 0 8 ci (fun _=>1) (fun i hi=>⟨by rw [Nat.zero_add];exact h3 i hi,by decide⟩) (by decide)
 have zL:=qh (fun w3 (hb:AP w3 gb #[.slice none 0 0] 245)=>om w3 gb ((k+1:Nat):Int) 0 8 hb)
 have Ya:=qh (Dp h hX (by decide) (by decide))
 have HC:=qh hc
 have HI:=qh hi
 have HN:=qh hN
 have HX:=qh hX
 clear h hk hn hj hbl hb hi hc hX hN
 obtain ⟨no,hno⟩:∃ x,k+1=x:=⟨_,rfl⟩
 rw [hno] at dY zL ⊢
 clear hno
 obtain ⟨Bs,hBs⟩:∃ x,Jm bs (no:Int) (Bq 3 no Fq)=x:=⟨_,rfl⟩
 rw [hBs] at dY ⊢
 clear hBs
 go_enter Tryz.func118,Tryz.ntmps118
 go_upto_region 2 with fail
 go_loopw [17] (fun vi wr=>(vi=.int .i64 0∧wr=w)∨(vi=.int .i64 1∧Hid (Bn wr base a img gl n c no Bs∧Ka w wr gb no 0 8∧Touch (fun x=>Cg w a img x∨x=gb) w wr))) (fun vi _=>1-(intOf vi).toNat)
 case atStart=>exact .inl ⟨rfl,rfl⟩
 case round =>
  rcases hrel with ⟨rfl,hwr⟩|⟨rfl,HF⟩
  · rw [hwr]
    clear hwr wr
    go_upto_region 5 with (go_at_call 180;(with_reducible refine dX.out.mono ?_);rintro e w2 ⟨⟨A6,c6,rfl,ho⟩,hB⟩;have HO:=qh ho;have HB:=qh hB;clear ho hB)
    rename World=>w2
    have AA6:=qh (dY.out w2 A6 c6 HB.out HO.out)
    clear hr dY dX
    go_upto_region 8 with (go_at_call 131;(with_reducible refine AA6.out.mono ?_);rintro e w3 ⟨rfl,ha,hT⟩;have HA:=qh ha;have HT:=qh hT;clear ha hT)
    rename World=>w3
    have HTw:Hid (Touch (Cg w a img) w w3):=(Touch.of_below HB.out).trans HT.out
    have ADe:=qh (U9.out w3 (fun i hi=>(World.cell?_of_block (a:=⟨gi,i,none⟩) (HTw.out.block HI.out HN.out)).trans (HC.out i hi)))
    have LM:Hid (AP w3 gb #[.slice none 0 0] 245):=(HTw.out.block HX.out.lt Ya.out).trans HX.out
    have ADf:=qh (zL.out w3 LM.out)
    clear U9 zL AA6 HT HC HI HN
    go_wp2_with (first
     | (go_at_call 181;(with_reducible refine ADe.out.mono ?_);rintro e w4 ⟨rfl,hw⟩;rw [hw];clear hw w4)
     | (go_at_call 129;(with_reducible refine ADf.out.mono ?_);rintro e w4 ⟨rfl,ho,hT⟩;have dW:=qh ho;have XM:=qh hT;clear ho hT))
    rename World=>w4
    have HF:Hid (Bn w4 base a img gl n c no Bs∧Ka w w4 gb no 0 8∧Touch (fun x=>Cg w a img x∨x=gb) w w4):=by
     refine ⟨HA.out.touch XM.out LM.out (by decide) (by decide) (by decide) (by decide),?_,(HTw.out.weak (fun x hx=>.inl hx)).trans (XM.out.weak (fun x hx=>.inr hx))⟩
     obtain ⟨gs,cs,p1,p2,p3⟩:=dW.out
     exact ⟨gs,cs,p1,Nat.le_trans HTw.out.size p2,p3⟩
    go_roundw
    case rel=>exact .inr ⟨rfl,HF⟩
    case measure=>simp [intOf]
  · go_wp2_with fail
    refine bodyPost_ret (v:=.nilIface) (by simp [results,Tryz.results118,go_sem]) rfl ⟨rfl,HF.out⟩
end
section
open Go.RowKit Go.Shelf
theorem Xt (w:World) (base a img gl n c k:Nat) (bs:List UInt8) (t:Int) (h1:1≤t) (h5:t≤5) (h:Bn w base a img gl n c k bs) (hk:k<n) (hc:n≤c) (hn:n≤14000) (hj:(k+1)*256+256≤bs.length) (hbl:bs.length≤3686400) (hb:base≤w.heap.size) :
 Calls Tryz.prog 121 #[.pointer (some ⟨a,0,none⟩),.int .i64 t,.slice none 0 0] w fun e w'=>e=.returned (.tuple #[.int .i64 ((k+1:Nat):Int),.nilIface])∧Bn w' base a img gl n c (k+1) (Dq bs k t)∧Touch (Cg w a img) w w':=rP w base a img gl n c k bs t h1 h5 h hk hc hn hj hbl hb
set_option maxRecDepth 100000 in
theorem bv (w:World) (base a img gl n c k:Nat) (bs:List UInt8) (A:Option Addr) (cc:Nat) (h:Bn w base a img gl n c k bs) (hk:k+1<n) (hc:n≤c) (hn:n≤14000) (hj:(k+2)*256+256≤bs.length) (hbl:bs.length≤3686400) (hb:base≤w.heap.size) :
 Calls Tryz.prog 74 #[.pointer (some ⟨a,0,none⟩),.slice A 0 cc] w fun e w'=>e=.returned (.tuple #[.int .i64 ((k+1:Nat):Int),.int .i64 ((k+2:Nat):Int),.nilIface])∧Bn w' base a img gl n c (k+2) (Dq (Dq bs k 4) (k+1) 5)∧Touch (Cg w a img) w w':=by
 have Xp:=qh (fun w' (hs:Bn w' base a img gl n c k bs)=>MS w' a img n c _ _ hs.1)
 have JZ:=qh (fun w' (hs:Bn w' base a img gl n c k bs)=>Xm w' a img n c gl k hs.1 (by omega) hc (by omega))
 have Nv:=qh (fun w'=>nodes0 w' 4 (by omega) (by omega))
 have Nw:=qh (fun w'=>nodes0 w' 5 (by omega) (by omega))
 have Ri:=qh (fun w'=>vK w' A cc)
 have Jn:=qh (fun w' a c=>jc w' a c)
 have HT1:=qh (fun w' (hs:Bn w' base a img gl n c k bs) (hb:base≤w'.heap.size)=>Xt w' base a img gl n c k bs 4 (by omega) (by omega) hs (by omega) hc hn (by omega) hbl hb)
 have HT2:=qh (fun w' (hs:Bn w' base a img gl n c (k+1) (Dq bs k 4)) (hb:base≤w'.heap.size)=>Xt w' base a img gl n c (k+1) (Dq bs k 4) 5 (by omega) (by omega) hs hk hc hn (by rw [Dh];omega) (by rw [Dh];exact hbl) hb)
 have QZ:=qh h.2.1
 have ET:=qh h.Y3
 have HH:=qh h
 have IG:=qh hb
 have hlf:¬ ((n-k:Nat):Int)<2:=by omega
 clear h hk hc hn hj hbl hb
 obtain ⟨n1,hn1⟩:∃ x,k+1=x:=⟨_,rfl⟩
 obtain ⟨n2,hn2⟩:∃ x,n1+1=x:=⟨_,rfl⟩
 have fQ:k+2=n2:=by omega
 rw [hn1] at HT1 HT2
 rw [hn2] at HT2
 rw [fQ,hn1]
 clear hn1 hn2 fQ
 obtain ⟨lf,hlx⟩:∃ x,((n-k:Nat):Int)=x:=⟨_,rfl⟩
 rw [hlx] at JZ hlf
 have hld:=decide_eq_false hlf
 clear hlx hlf
 go_enter Tryz.func74,Tryz.ntmps74
 have AAG:=HH
 go_upto_region 4 with (first
  | (go_at_call 72;(with_reducible refine (Xp.out _ HH.out).mono ?_);rintro e w2 ⟨rfl,hw⟩;rw [hw];clear hw w2)
  | (go_at_call 115;(with_reducible refine (Ri.out _).mono ?_);rintro e w2 ⟨rfl,hB⟩;have HB2:=qh hB;clear hB))
 rename World=>w2
 have KF:=qh (HH.out.below HB2.out)
 go_upto_region 8 with (first
  | (go_at_call 116;(with_reducible refine (JZ.out _ KF.out).mono ?_);rintro e w3 ⟨rfl,hB⟩;have HB3:=qh hB;clear hB)
  | (go_at_call 117;(with_reducible refine (Nv.out _).mono ?_);rintro e w4 ⟨rfl,hB⟩;have CL:=qh hB;clear hB)
  | (go_at_call 117;(with_reducible refine (Nw.out _).mono ?_);rintro e w5 ⟨rfl,hB⟩;have CE:=qh hB;clear hB))
 rename World=>w5
 have vg:Hid (Below w2.heap.size w2 w5):=(HB3.out.trans (CL.out.mono HB3.out.size)).trans (CE.out.mono (Nat.le_trans HB3.out.size CL.out.size))
 go_upto_region 9 with fail
 have hb6:=AP.new w5 #[.slice none 0 0] 104
 have EG:Below w5.heap.size w5 (w5.alloc (.cells #[.slice none 0 0] 104)):=(Below.refl _ _).alloc (Nat.le_refl _) _
 generalize w5.alloc (.cells #[.slice none 0 0] 104)=w6 at *
 have x6:w6.cell? ⟨w5.heap.size,0,none⟩=some (.slice none 0 0):=hb6.at 0 _ rfl
 have Tt:Hid (Below w.heap.size w w6):=(HB2.out.trans (vg.out.mono HB2.out.size)).trans (EG.mono (Nat.le_trans HB2.out.size vg.out.size))
 have oo:=qh (HH.out.below Tt.out)
 have Yj:=qh (HT1.out w6 oo.out (by have:=IG.out;have:=Tt.out.size;omega))
 have rT:∀ (fn:Fn) (first cap:Array Value) (w:World),(Instr.makeFunc fn first cap).run Tryz.prog w=.ok (.func fn first cap) w:=fun _ _ _ _=>rfl
 clear hb6 EG HT1 Xp JZ Nv Nw Ri KF HB2 HB3 CL CE vg hld
 go_upto_region 13 with (first
  | (go_at_call 118;(with_reducible refine (Jn.out _ _ _).mono ?_);rintro e w7 ⟨rfl,hw⟩;rw [hw];clear hw w7)
  | (go_at_call 121;(with_reducible refine Yj.out.mono ?_);rintro e w7 ⟨rfl,ha,hT⟩;have HA7:=qh ha;have uV:=qh hT;clear ha hT))
 rename World=>w7
 have Q0:=qh (HT2.out w7 HA7.out (by have:=IG.out;have:=Tt.out.size;have:=uV.out.size;omega))
 clear x6 HT2
 go_wp2_with (go_at_call 121;(with_reducible refine Q0.out.mono ?_);rintro e w8 ⟨rfl,ha,hT⟩;have HA8:=qh ha;have ADg:=qh hT;clear ha hT)
 have t1:Touch (Cg w a img) w w7:=(Touch.of_below Tt.out).trans (uV.out.weak (C8 QZ.out Tt.out))
 refine bodyPost_ret (v:=.tuple #[.int .i64 n1,.int .i64 n2,.nilIface]) (by simp [results,Tryz.results74,go_sem]) rfl ⟨rfl,HA8.out,t1.trans (ADg.out.weak (GN QZ.out t1 ET.out))⟩
end
section
open Go.RowKit Go.Shelf
theorem Ha {j:Nat} (hj:j≤8):(Ea j).length=8:=by unfold Ea;simp;omega
theorem Vh {j i:Nat} (hj:j≤8) (hi:i<8):(Ea j)[i]? = some (nth 0 (Ea j) i):=by
 rw [List.getElem?_eq_getElem (by rw [Ha hj];exact hi),Ac 0 _ i (by rw [Ha hj];exact hi)]
theorem QN {w:World} {g j:Nat} (hj:j≤8) (h:AP w g (IL j) 3):∀ i,i<8→w.cell? ⟨g,i,none⟩=some (.int .i64 (nth 0 (Ea j) i)):=fun i hi =>
 h.at i _ (by unfold IL;rw [List.getElem?_toArray,List.getElem?_map,Vh hj hi];rfl)
theorem Vi {j:Nat}:∀ x∈Ea j,0≤x∧x<3:=by
 intro x hx
 unfold Ea at hx
 rcases List.mem_append.1 hx with h|h
 · rw [List.eq_of_mem_replicate h];decide
 · rw [List.eq_of_mem_replicate h];decide
theorem cK {w:World} {g:Nat} {l:List Int} (h:∀ i,i<l.length→w.cell? ⟨g,i,none⟩=some (.int .i64 (nth 0 l i))):∀ j u,(AB encI l)[j]? = some u→w.cell? ((⟨g,0,none⟩:Addr).add j)=some u:=by
 intro j u hu
 rw [CU,List.getElem?_map] at hu
 rw [add_lit,Nat.zero_add]
 cases hl:l[j]? with
 | none=>rw [hl] at hu;cases hu
 | some x =>
  rw [hl] at hu
  injection hu with hu
  subst hu
  obtain ⟨hj,hx⟩:=List.getElem?_eq_some_iff.1 hl
  rw [h j hj,Ac 0 l j hj,hx]
theorem NB {i:Nat} (h:i<3):(AB encI (Ea (5+i))).set (5+i) (.int .i64 1)=AB encI (Ea (5+(i+1))):=by
 rcases (show i=0∨i=1∨i=2 by omega) with rfl|rfl|rfl <;> rfl
theorem je:∀ i,i<8→(AB encI (Ea 8))[i]? = some (.int .i64 1):=by
 intro i hi
 rcases (show i=0∨i=1∨i=2∨i=3∨i=4∨i=5∨i=6∨i=7 by omega) with rfl|rfl|rfl|rfl|rfl|rfl|rfl|rfl <;> rfl
def QO:List UInt8:=IR Jt [6,0,8]
theorem R6:QO.length=16:=by kernel_rfl
def Jd (bs:List UInt8):List UInt8:=Jm (Jm (Dq bs 4 5) ((5+1:Nat):Int) (Bq 3 (5+1) Fq)) ((6+1:Nat):Int) (Bq 4 (6+1) (Ih QO))
set_option maxRecDepth 100000 in
theorem cO (w:World) (base a img gl c:Nat) (bs:List UInt8) (gc:Nat) (h:Bn w base a img gl 7 c 4 bs) (hc:7≤c) (hbl:bs.length=2048) (hb:base≤w.heap.size) (hX:AP w gc (IL 5) 3) :
 Calls Tryz.prog 76 #[.pointer (some ⟨a,0,none⟩),.slice (some ⟨gc,0,none⟩) 8 8] w fun e w'=>e=.returned (.tuple #[.int .i64 7,.int .i64 5,.nilIface])∧Bn w' base a img gl 7 c 7 (Jd bs)∧Touch (Cg w a img) w w':=by
 have Xp:=qh (fun w' (hs:Bn w' base a img gl 7 c 4 bs)=>MS w' a img 7 c _ _ hs.1)
 have IX:Hid (∀ w',Bn w' base a img gl 7 c 4 bs→Calls Tryz.prog 42 #[.pointer (some ⟨img,0,none⟩)] w' fun e w''=>e=.returned (.int .i64 8)∧w''=w'):=fun w' hs=>by
  obtain ⟨A,cc,h1,-⟩:=hs.2.1.QM
  have h9:=CR w' img A bs.length cc h1 (by rw [hbl];decide)
  rw [hbl] at h9
  refine h9.mono ?_
  rintro e w2 ⟨rfl,hw⟩
  exact ⟨rfl,hw.symm⟩
 have JZ:Hid (∀ w',Bn w' base a img gl 7 c 4 bs→Calls Tryz.prog 116 #[.pointer (some ⟨a,0,none⟩)] w' fun e w''=>e=.returned (.int .i64 3)∧Below w'.heap.size w' w''):=fun w' hs=>Xm w' a img 7 c gl 4 hs.1 (by omega) hc (by omega)
 have Nw:=qh (fun w'=>nodes0 w' 5 (by omega) (by omega))
 have kX:=qh (fun w'=>jW w')
 have Ri:=qh (fun w' (hX:AP w' gc (IL 5) 3)=>jD w' gc 0 8 8 (Ea 5) (Ha (by omega)) (by omega) (by omega) hX.lt (fun i hi=>by rw [Nat.zero_add];exact QN (by omega) hX i hi) Vi)
 have GH:=qh (fun w' (hX:AP w' gc (IL 5) 3)=>QC w' gc 8 8 (Ea 5) (Ha (by omega)) (by omega) (by omega) (cK (fun i hi=>QN (by omega) hX i (by rw [Ha (by omega)] at hi;exact hi))))
 have HAH:Hid (∀ w',Bn w' base a img gl 7 c 4 bs→Calls Tryz.prog 128 #[.pointer (some ⟨a,0,none⟩),.int .i64 3] w' fun e w''=>(∃ v',e=.returned v'∧Aa w'' (C9 w'.heap.size w''.heap.size) v' (MV 4 3))∧Below w'.heap.size w' w''):=fun w' hs=>ou w' base a img gl 7 c 4 3 bs hs (by omega) (by omega) hc (by omega)
 have PH:Hid (∀ w',Bn w' base a img gl 7 c 4 bs→base≤w'.heap.size→Calls Tryz.prog 121 #[.pointer (some ⟨a,0,none⟩),.int .i64 5,.slice none 0 0] w' fun e w''=>e=.returned (.tuple #[.int .i64 5,.nilIface])∧Bn w'' base a img gl 7 c 5 (Dq bs 4 5)∧Touch (Cg w' a img) w' w''):=fun w' hs hb=>Xt w' base a img gl 7 c 4 bs 5 (by omega) (by omega) hs (by omega) hc (by omega) (by omega) (by omega) hb
 have hl5:(Dq bs 4 5).length=2048:=by rw [Dh];exact hbl
 have hl6:(Jm (Dq bs 4 5) ((5+1:Nat):Int) (Bq 3 (5+1) Fq)).length=2048:=by rw [MU];exact hl5
 have Jn:Hid (∀ w' gr cr gi ci gb,Bn w' base a img gl 7 c 5 (Dq bs 4 5)→base≤w'.heap.size→w'.cell? ⟨gr,0,none⟩=some (.slice (some ⟨gi,0,none⟩) 8 ci)→gi<w'.heap.size→(∀ i,i<8→w'.cell? ⟨gi,i,none⟩=some (.int .i64 1))→AP w' gb #[.slice none 0 0] 245→¬ Cg w' a img gi →
  Calls Tryz.prog 118 #[.pointer (some ⟨a,0,none⟩),.slice (some ⟨gr,0,none⟩) 1 cr,.func (.func 129) #[] #[.pointer (some ⟨gb,0,none⟩)]] w' fun e w''=>e=.returned .nilIface∧Bn w'' base a img gl 7 c 6 (Jm (Dq bs 4 5) ((5+1:Nat):Int) (Bq 3 (5+1) Fq))∧Ka w' w'' gb 6 0 8∧Touch (fun x=>Cg w' a img x∨x=gb) w' w''):=fun w' gr cr gi ci gb h1 h2 h3 h4 h5 h6 h7 =>
  jd w' base a img gl 7 c 5 (Dq bs 4 5) gr cr gi ci gb h1 (by omega) (by omega) (by omega) (by omega) h2 h3 h4 h5 h6 h7
 have rM:Hid (∀ w' g cs,g<w'.heap.size→w'.cell? ⟨g,0,none⟩=some (.int .i64 6)→w'.cell? ⟨g,1,none⟩=some (.int .i64 0)→w'.cell? ⟨g,2,none⟩=some (.int .i64 8)→Calls Tryz.prog 130 #[.slice (some ⟨g,0,none⟩) 1 cs] w' fun e w''=>(∃ A c',e=.returned (.tuple #[.slice A 244 c',.int .i64 0])∧w''.ownsRow w'.heap.size 5 1 (.slice A 244 c') 244 (AB Au (Ih QO)))∧Below w'.heap.size w' w''):=fun w' g cs h1 h2 h3 h4=>bi w' g cs 6 0 8 QO rfl R6 h1 h2 h3 h4
 have dY:Hid (∀ w1 w2 A6 c6,Bn w1 base a img gl 7 c 6 (Jm (Dq bs 4 5) ((5+1:Nat):Int) (Bq 3 (5+1) Fq))→Below w1.heap.size w1 w2→w2.ownsRow w1.heap.size 5 1 (.slice A6 244 c6) 244 (AB Au (Ih QO))→Calls Tryz.prog 131 #[.pointer (some ⟨a,0,none⟩),.int .i64 4,.slice A6 244 c6] w2 fun e w'=>e=.returned (.tuple #[.int .i64 7,.nilIface])∧Bn w' base a img gl 7 c 7 (Jd bs)∧Touch (Cg w1 a img) w2 w'):=fun w1 w2 A6 c6 h hB ho=>by
  have hlt:a<w1.heap.size:=AP.lt h.1
  have h9:=jS w2 (C9 w1.heap.size w2.heap.size) base a img gl 7 c 6 _ 4 (.slice A6 244 c6) (Ih QO) (fun b hb=>hb.2) (fun hb=>by have:=hb.1;omega) (h.below hB) (by omega) (by omega) (CF.own D8 ho (by omega)) (by unfold Ih;simp only [List.length_append,R6,List.length_replicate];decide) (by omega) (by omega) (by omega) (by omega)
  refine h9.mono ?_
  rintro e w' ⟨h1,h2,h3⟩
  exact ⟨h1,h2,h3.weak (C8 h.2.1 hB)⟩
 have HH:=qh h
 have IG:=qh hb
 have HX:=qh hX
 have ET:=qh h.Y3
 clear h hc hbl hb hX hl5 hl6
 generalize Jd bs=B7 at *
 generalize Jm (Dq bs 4 5) ((5+1:Nat):Int) (Bq 3 (5+1) Fq)=B6 at *
 generalize Dq bs 4 5=B5 at *
 go_enter Tryz.func76,Tryz.ntmps76
 go_upto_region 7 with (first
  | (go_at_call 72;(with_reducible refine (Xp.out _ HH.out).mono ?_);rintro e w2 ⟨rfl,hw⟩;rw [hw];clear hw w2)
  | (go_at_call 42;(with_reducible refine (IX.out _ HH.out).mono ?_);rintro e w2 ⟨rfl,hw⟩;rw [hw];clear hw w2)
  | (go_at_call 115;(with_reducible refine (Ri.out _ HX.out).mono ?_);rintro e w2 ⟨⟨gr,cr,gi,ci,rfl,-,-⟩,hB⟩;have HB2:=qh hB;clear hB))
 rename World=>w2
 have KF:=qh (HH.out.below HB2.out)
 go_upto_region 10 with (first
  | (go_at_call 117;(with_reducible refine (Nw.out _).mono ?_);rintro e w3 ⟨rfl,hB⟩;have HB3:=qh hB;clear hB)
  | (go_at_call 126;(with_reducible refine (kX.out _).mono ?_);rintro e w4 ⟨rfl,hw⟩;rw [hw];clear hw w4))
 rename World=>w3
 have Qz:=qh (KF.out.below HB3.out)
 go_upto_region 12 with (go_at_call 116;(with_reducible refine (JZ.out _ Qz.out).mono ?_);rintro e w4 ⟨rfl,hB⟩;have CL:=qh hB;clear hB)
 rename World=>w4
 have Tq:Hid (Below w.heap.size w w4):=(HB2.out.trans (HB3.out.mono HB2.out.size)).trans (CL.out.mono (Nat.le_trans HB2.out.size HB3.out.size))
 have zl:=qh (HX.out.below Tq.out HX.out.lt)
 clear KF Qz HB2 HB3 CL Ri Nw kX JZ Xp IX
 go_upto_region 13 with (go_at_call 127;(with_reducible refine (GH.out _ zl.out).mono ?_);rintro e w5 ⟨⟨g5,c5,rfl,ho⟩,hB⟩;have Jb:=qh ho;have CE:=qh hB;clear ho hB)
 rename World=>w5
 have Tc:Hid (Below w.heap.size w w5):=Tq.out.trans (CE.out.mono Tq.out.size)
 have OC:=qh (HH.out.below Tc.out)
 have AA7:=qh (HAH.out w5 OC.out)
 clear GH HAH zl
 go_upto_region 14 with (go_at_call 128;(with_reducible refine AA7.out.mono ?_);rintro e w6 ⟨⟨v6,rfl,hv⟩,hB⟩;obtain ⟨A6,c6,rfl,hc6,p8⟩:=hv;obtain ⟨gq,oq,hAq,hgq,hcq⟩:=BR p8 (by decide);subst hAq;rw [G9];have HQ:=qh hcq;have yO:=qh hgq;have Dz:=qh hB;clear hB hcq hgq p8 hc6)
 rename World=>w6
 have Tt:Hid (Below w.heap.size w w6):=Tc.out.trans (Dz.out.mono Tc.out.size)
 have hg5:=(Jb.out.lt g5 rfl).1
 have PM:Hid (w6.ownsRow w4.heap.size 3 1 (.slice (some ⟨g5,0,none⟩) 8 c5) 8 (AB encI (Ea (5+0)))):=own_below Jb.out Dz.out (Nat.le_refl _)
 have AA8:g5≠gq:=fun e=>by have:=(Jb.out.lt g5 rfl).2;have:=yO.out.1;omega
 have uq:Hid (∀ W,Touch (fun x=>x=g5) w6 W→W.cell? ⟨gq,oq,none⟩=some (.int .i64 5)∧W.cell? ⟨gq,oq+1,none⟩=some (.int .i64 6)∧W.cell? ⟨gq,oq+2,none⟩=some (.int .i64 7)):=fun W hT=>by
  have hb:=hT.block yO.out.2 (fun e=>AA8 e.symm)
  exact ⟨(World.cell?_of_block (a:=⟨gq,oq,none⟩) hb).trans (HQ.out 0 (by decide)),(World.cell?_of_block (a:=⟨gq,oq+1,none⟩) hb).trans (HQ.out 1 (by decide)),(World.cell?_of_block (a:=⟨gq,oq+2,none⟩) hb).trans (HQ.out 2 (by decide))⟩
 have Ux:Hid (w.heap.size≤g5):=by show _≤_;have:=Tq.out.size;omega
 clear Jb OC AA7 Dz CE HQ yO Tc hg5 AA8
 go_loopw [63] (fun vi wr=>∃ i:Nat,vi=.int .i64 i∧i≤3∧Hid (Touch (fun x=>x=g5) w6 wr)∧Hid (wr.ownsRow w4.heap.size 3 1 (.slice (some ⟨g5,0,none⟩) 8 c5) 8 (AB encI (Ea (5+i))))) (fun vi _=>3-(intOf vi).toNat)
 case atStart=>exact ⟨0,rfl,by omega,Touch.refl,PM⟩
 case round =>
  obtain ⟨i,rfl,hi,HT,HO⟩:=hrel
  rcases (show i=0∨i=1∨i=2∨i=3 by omega) with rfl|rfl|rfl|rfl
  · obtain ⟨q0,q1,q2⟩:=uq.out wr HT.out
    have z0:wr.cell? ⟨g5,5,none⟩=some (.int .i64 0):=HO.out.cellAt 5 (by decide)
    have z1:=HO.out.frozenAt 5
    have z2:=(HO.out.lt g5 rfl).2
    rw [show ((0:Nat):Int)=0 from rfl]
    go_wp2_with fail
    have hst:=HO.out.stored 5 (.int .i64 1)
    rw [show (AB encI (Ea (5+0))).set 5 (.int .i64 1)=AB encI (Ea (5+1)) from NB (i:=0) (by omega)] at hst
    exact ⟨⟨1,rfl,by omega,HT.out.trans (Touch.BO hst.2 (fun x e=>by injection e with e;exact e.symm)),hst.1⟩,by simp [intOf]⟩
  · obtain ⟨q0,q1,q2⟩:=uq.out wr HT.out
    have z0:wr.cell? ⟨g5,6,none⟩=some (.int .i64 0):=HO.out.cellAt 6 (by decide)
    have z1:=HO.out.frozenAt 6
    have z2:=(HO.out.lt g5 rfl).2
    rw [show ((1:Nat):Int)=1 from rfl]
    go_wp2_with fail
    have hst:=HO.out.stored 6 (.int .i64 1)
    rw [show (AB encI (Ea (5+1))).set 6 (.int .i64 1)=AB encI (Ea (5+2)) from NB (i:=1) (by omega)] at hst
    exact ⟨⟨2,rfl,by omega,HT.out.trans (Touch.BO hst.2 (fun x e=>by injection e with e;exact e.symm)),hst.1⟩,by simp [intOf]⟩
  · obtain ⟨q0,q1,q2⟩:=uq.out wr HT.out
    have z0:wr.cell? ⟨g5,7,none⟩=some (.int .i64 0):=HO.out.cellAt 7 (by decide)
    have z1:=HO.out.frozenAt 7
    have z2:=(HO.out.lt g5 rfl).2
    rw [show ((2:Nat):Int)=2 from rfl]
    go_wp2_with fail
    have hst:=HO.out.stored 7 (.int .i64 1)
    rw [show (AB encI (Ea (5+2))).set 7 (.int .i64 1)=AB encI (Ea (5+3)) from NB (i:=2) (by omega)] at hst
    exact ⟨⟨3,rfl,by omega,HT.out.trans (Touch.BO hst.2 (fun x e=>by injection e with e;exact e.symm)),hst.1⟩,by simp [intOf]⟩
  · have Cy:Hid (Below w.heap.size w wr):=Tt.out.trans (HT.out.below (base:=w.heap.size) (fun x e=>by rw [e];exact Ux.out) Tt.out.size)
    have vz:=qh (HH.out.below Cy.out)
    have AA9:=qh (PH.out wr vz.out (by have:=IG.out;have:=Cy.out.size;omega))
    have Ie:Hid (wr.ownsRow w4.heap.size 3 1 (.slice (some ⟨g5,0,none⟩) 8 c5) 8 (AB encI (Ea 8))):=HO.out
    have Nw:Hid (¬ Cg wr a img g5):=by
     rintro (e|hx)
     · have h1:a<w.heap.size:=AP.lt HH.out.1
       have:=Ux.out;omega
     · obtain ⟨cs,hx,-⟩:=JR vz.out.2.1 g5 hx
       exact BC Ie.out hx (by decide) rfl
    rw [show ((3:Nat):Int)=3 from rfl]
    clear uq PM HT HO PH Tt Tq Ux
    go_upto_region 21 with (go_at_call 121;(with_reducible refine AA9.out.mono ?_);rintro e w8 ⟨rfl,ha,hT⟩;have HA8:=qh ha;have Q0:=qh hT;clear ha hT)
    rename World=>w8
    have Qp:=qh (BG Ie.out Q0.out (fun x hx e=>Nw.out (by have hx:some g5=some x:=hx;injection hx with hx;rw [hx];exact e)))
    have ABA:=qh (jD w8 g5 0 8 c5 (Ea 8) (Ha (by omega)) (by omega) (by omega) (Qp.out.lt g5 rfl).2 (fun i hi=>by rw [Nat.zero_add];exact (Qp.out.cellAt i (by omega)).trans (by rw [CU,List.getElem?_map,Vh (by omega) hi];rfl)) Vi)
    have Xu:Hid (Touch (Cg w a img) w w8):=(Touch.of_below Cy.out).trans (Q0.out.weak (C8 HH.out.2.1 Cy.out))
    clear Ie Qp AA9 Nw Q0 vz
    go_upto_region 24 with (go_at_call 115;(with_reducible refine ABA.out.mono ?_);rintro e w9 ⟨⟨gr,cr,gi,ci,rfl,hr1,hr2⟩,hB⟩;have HR1:=qh hr1;have HR2:=qh hr2;have TK:=qh hB;clear hr1 hr2 hB)
    rename World=>w9
    have nM:=qh (HA8.out.below TK.out)
    clear ABA
    have gM:=AP.new w9 #[.slice none 0 0] 245
    have I4:Below w9.heap.size w9 (w9.alloc (.cells #[.slice none 0 0] 245)):=(Below.refl _ _).alloc (Nat.le_refl _) _
    go_upto_region 25 with fail
    generalize w9.alloc (.cells #[.slice none 0 0] 245)=CW at *
    obtain ⟨gb,hgb⟩:∃ q,w9.heap.size=q:=⟨_,rfl⟩
    have Fy:=qh I4
    have kV:=TK.out.size
    have vP:=Xu.out.size
    have yE:Hid (w.heap.size≤gb):=by show _≤_;omega
    have hla:a<w8.heap.size:=Nat.lt_of_lt_of_le (AP.lt HH.out.1) vP
    have hgi:=HR2.out.lt gi rfl
    have rU:Hid (Below w8.heap.size w8 CW):=TK.out.trans (I4.mono kV)
    have ABB:Hid (CW.cell? ⟨gr,0,none⟩=some (.slice (some ⟨gi,0,none⟩) 8 ci)):=AQ I4 (HR1.out.lt gr rfl).2 (HR1.out.cellAt 0 (by decide))
    have ow:Hid (CW.ownsRow w8.heap.size 3 1 (.slice (some ⟨gi,0,none⟩) 8 ci) 8 (AB encI (Ea 8))):=own_below HR2.out I4 (Nat.le_refl _)
    have Vj:=qh (nM.out.below I4)
    have mf:Hid (¬ Cg CW a img gi):=by
     rintro (e|hx)
     · omega
     · obtain ⟨cs,hx,-⟩:=JR Vj.out.2.1 gi hx
       exact BC ow.out hx (by decide) rfl
    have jf:=qh (Jn.out CW gr cr gi ci w9.heap.size Vj.out (by have:=IG.out;have:=I4.size;omega) ABB.out (ow.out.lt gi rfl).2 (fun i hi=>(ow.out.cellAt i (by omega)).trans (je i hi)) gM mf.out)
    have R7:Hid (Touch (Cg w a img) w CW):=Xu.out.trans (Touch.of_below rU.out)
    have rT:∀ (fn:Fn) (first cap:Array Value) (w:World),(Instr.makeFunc fn first cap).run Tryz.prog w=.ok (.func fn first cap) w:=fun _ _ _ _=>rfl
    rw [hgb] at jf ⊢
    clear gM I4 hgb kV vP hla hgi Jn HR1 HR2 ABB ow mf nM TK Xu rU Fy
    go_upto_region 26 with (go_at_call 118;(with_reducible refine jf.out.mono ?_);rintro e Jj ⟨rfl,ha,⟨gs,cs,hbx,AA5,ABC,hc0,hc1,hc2⟩,hT⟩;have ADh:=qh ha;have rV:=qh hbx;have rW:=qh (rM.out Jj gs cs ABC hc0 hc1 hc2);have XU:=qh hT;clear ha hT hbx AA5 ABC hc0 hc1 hc2)
    rename World=>Jj
    have Y4:Hid (Touch (Cg w a img) w Jj):=R7.out.trans' XU.out (fun x hx=>by
     rcases hx with hx|hx
     · exact .inl (GN HH.out.2.1 R7.out ET.out x hx)
     · exact .inr (by rw [hx];exact yE.out))
    have y0:Jj.cell? ⟨gb,0,none⟩=some (.slice (some ⟨gs,0,none⟩) 1 cs):=rV.out.at 0 _ rfl
    clear jf rM R7 XU rT
    go_upto_region 29 with (go_at_call 130;(with_reducible refine rW.out.mono ?_);rintro e Ch ⟨⟨A12,c12,rfl,ho⟩,hB⟩;have wC:=qh ho;have Db:=qh hB;clear ho hB)
    rename World=>Ch
    have ABD:=qh (dY.out Jj Ch A12 c12 ADh.out Db.out wC.out)
    clear y0 dY rW rV
    go_wp2_with (go_at_call 131;(with_reducible refine ABD.out.mono ?_);rintro e IY ⟨rfl,ha,hT⟩;have ADi:=qh ha;have ADj:=qh hT;clear ha hT)
    refine bodyPost_ret (v:=.tuple #[.int .i64 7,.int .i64 5,.nilIface]) (by simp [results,Tryz.results76,go_sem]) rfl ⟨rfl,ADi.out,(Y4.out.trans (Touch.of_below Db.out)).trans (ADj.out.weak (GN HH.out.2.1 Y4.out ET.out))⟩
end
section
open Go.RowKit Go.Shelf
def Vk:Nl:=⟨0,0,1,0,8,1,2,3,4,7,5⟩
def V3:List UInt8:=Dq (Dq (Dq (Dq Fs 0 1) 1 3) 2 4) 3 5
def rX:List UInt8:=Jm (Jd V3) 0 (Bq 1 0 (Dv Vk))
def bk0:List UInt8:=[0,0,0,0,1,0,0,0,83,67,65,78,84,76,73,78,1,0,0,0,0,0,0,0,0,0,0,0,1,0,0,0,0,0,0,0,8,0,0,0,1,0,0,0,2,0,0,0,3,0,0,0,4,0,0,0,7,0,0,0,5,0,0,0,0,0,0,0,0,0,0,0,0,0,0,0,0,0,0,0,0,0,0,0,0,0,0,0,0,0,0,0,0,0,0,0,0,0,0,0,0,0,0,0,0,0,0,0,0,0,0,0,0,0,0,0,0,0,0,0,0,0,0,0,0,0,0,0,0,0,0,0,0,0,0,0,0,0,0,0,0,0,0,0,0,0,0,0,0,0,0,0,0,0,0,0,0,0,0,0,0,0,0,0,0,0,0,0,0,0,0,0,0,0,0,0,0,0,0,0,0,0,0,0,0,0,0,0,0,0,0,0,0,0,0,0,0,0,0,0,0,0,0,0,0,0,0,0,0,0,0,0,0,0,0,0,0,0,0,0,0,0,0,0,0,0,0,0,0,0,0,0,0,0,0,0,0,0,0,0,0,0,0,0,0,0,0,0,0,0,0,0,114,177,122,225]
def bk1:List UInt8:=[1,0,0,0,2,0,0,0,1,1,0,0,4,0,18,0,0,0,0,0,0,0,0,0,0,0,0,0,0,0,0,0,0,0,0,0,0,0,0,0,0,0,0,0,0,0,0,0,0,0,0,0,0,0,0,0,0,0,0,0,0,0,0,0,0,0,0,0,0,0,0,0,0,0,0,0,0,0,0,0,0,0,0,0,0,0,0,0,0,0,0,0,0,0,0,0,0,0,0,0,0,0,0,0,0,0,0,0,0,0,0,0,0,0,0,0,0,0,0,0,0,0,0,0,0,0,0,0,0,0,0,0,0,0,0,0,0,0,0,0,0,0,0,0,0,0,0,0,0,0,0,0,0,0,0,0,0,0,0,0,0,0,0,0,0,0,0,0,0,0,0,0,0,0,0,0,0,0,0,0,0,0,0,0,0,0,0,0,0,0,0,0,0,0,0,0,0,0,0,0,0,0,0,0,0,0,0,0,0,0,0,0,0,0,0,0,0,0,0,0,0,0,0,0,0,0,0,0,0,0,0,0,0,0,0,0,0,0,0,0,0,0,0,0,0,0,0,0,0,0,0,0,119,42,154,67]
def bk2:List UInt8:=[2,0,0,0,2,0,0,0,1,3,0,0,24,0,6,0,0,0,0,0,0,0,0,0,0,0,0,0,0,0,0,0,0,0,0,0,0,0,0,0,0,0,0,0,0,0,0,0,0,0,0,0,0,0,0,0,0,0,0,0,0,0,0,0,0,0,0,0,0,0,0,0,0,0,0,0,0,0,0,0,0,0,0,0,0,0,0,0,0,0,0,0,0,0,0,0,0,0,0,0,0,0,0,0,0,0,0,0,0,0,0,0,0,0,0,0,0,0,0,0,0,0,0,0,0,0,0,0,0,0,0,0,0,0,0,0,0,0,0,0,0,0,0,0,0,0,0,0,0,0,0,0,0,0,0,0,0,0,0,0,0,0,0,0,0,0,0,0,0,0,0,0,0,0,0,0,0,0,0,0,0,0,0,0,0,0,0,0,0,0,0,0,0,0,0,0,0,0,0,0,0,0,0,0,0,0,0,0,0,0,0,0,0,0,0,0,0,0,0,0,0,0,0,0,0,0,0,0,0,0,0,0,0,0,0,0,0,0,0,0,0,0,0,0,0,0,0,0,0,0,0,0,115,179,53,120]
def cZ:List UInt8:=[3,0,0,0,2,0,0,0,1,4,0,0,16,0,9,0,0,0,0,0,0,0,0,0,0,0,0,0,0,0,0,0,0,0,0,0,0,0,0,0,0,0,0,0,0,0,0,0,0,0,0,0,0,0,0,0,0,0,0,0,0,0,0,0,0,0,0,0,0,0,0,0,0,0,0,0,0,0,0,0,0,0,0,0,0,0,0,0,0,0,0,0,0,0,0,0,0,0,0,0,0,0,0,0,0,0,0,0,0,0,0,0,0,0,0,0,0,0,0,0,0,0,0,0,0,0,0,0,0,0,0,0,0,0,0,0,0,0,0,0,0,0,0,0,0,0,0,0,0,0,0,0,0,0,0,0,0,0,0,0,0,0,0,0,0,0,0,0,0,0,0,0,0,0,0,0,0,0,0,0,0,0,0,0,0,0,0,0,0,0,0,0,0,0,0,0,0,0,0,0,0,0,0,0,0,0,0,0,0,0,0,0,0,0,0,0,0,0,0,0,0,0,0,0,0,0,0,0,0,0,0,0,0,0,0,0,0,0,0,0,0,0,0,0,0,0,0,0,0,0,0,0,7,155,133,136]
def ji:List UInt8:=[4,0,0,0,2,0,0,0,1,5,0,0,4,0,18,0,0,0,0,0,0,0,0,0,0,0,0,0,0,0,0,0,0,0,0,0,0,0,0,0,0,0,0,0,0,0,0,0,0,0,0,0,0,0,0,0,0,0,0,0,0,0,0,0,0,0,0,0,0,0,0,0,0,0,0,0,0,0,0,0,0,0,0,0,0,0,0,0,0,0,0,0,0,0,0,0,0,0,0,0,0,0,0,0,0,0,0,0,0,0,0,0,0,0,0,0,0,0,0,0,0,0,0,0,0,0,0,0,0,0,0,0,0,0,0,0,0,0,0,0,0,0,0,0,0,0,0,0,0,0,0,0,0,0,0,0,0,0,0,0,0,0,0,0,0,0,0,0,0,0,0,0,0,0,0,0,0,0,0,0,0,0,0,0,0,0,0,0,0,0,0,0,0,0,0,0,0,0,0,0,0,0,0,0,0,0,0,0,0,0,0,0,0,0,0,0,0,0,0,0,0,0,0,0,0,0,0,0,0,0,0,0,0,0,0,0,0,0,0,0,0,0,0,0,0,0,0,0,0,0,0,0,194,223,156,138]
def o6:List UInt8:=[5,0,0,0,2,0,0,0,1,5,0,0,4,0,18,0,0,0,0,0,0,0,0,0,0,0,0,0,0,0,0,0,0,0,0,0,0,0,0,0,0,0,0,0,0,0,0,0,0,0,0,0,0,0,0,0,0,0,0,0,0,0,0,0,0,0,0,0,0,0,0,0,0,0,0,0,0,0,0,0,0,0,0,0,0,0,0,0,0,0,0,0,0,0,0,0,0,0,0,0,0,0,0,0,0,0,0,0,0,0,0,0,0,0,0,0,0,0,0,0,0,0,0,0,0,0,0,0,0,0,0,0,0,0,0,0,0,0,0,0,0,0,0,0,0,0,0,0,0,0,0,0,0,0,0,0,0,0,0,0,0,0,0,0,0,0,0,0,0,0,0,0,0,0,0,0,0,0,0,0,0,0,0,0,0,0,0,0,0,0,0,0,0,0,0,0,0,0,0,0,0,0,0,0,0,0,0,0,0,0,0,0,0,0,0,0,0,0,0,0,0,0,0,0,0,0,0,0,0,0,0,0,0,0,0,0,0,0,0,0,0,0,0,0,0,0,0,0,0,0,0,0,215,119,186,158]
def wD:List UInt8:=[6,0,0,0,3,0,0,0,8,0,0,0,85,85,0,0,0,0,0,0,0,0,0,0,0,0,0,0,0,0,0,0,0,0,0,0,0,0,0,0,0,0,0,0,0,0,0,0,0,0,0,0,0,0,0,0,0,0,0,0,0,0,0,0,0,0,0,0,0,0,0,0,0,0,0,0,0,0,0,0,0,0,0,0,0,0,0,0,0,0,0,0,0,0,0,0,0,0,0,0,0,0,0,0,0,0,0,0,0,0,0,0,0,0,0,0,0,0,0,0,0,0,0,0,0,0,0,0,0,0,0,0,0,0,0,0,0,0,0,0,0,0,0,0,0,0,0,0,0,0,0,0,0,0,0,0,0,0,0,0,0,0,0,0,0,0,0,0,0,0,0,0,0,0,0,0,0,0,0,0,0,0,0,0,0,0,0,0,0,0,0,0,0,0,0,0,0,0,0,0,0,0,0,0,0,0,0,0,0,0,0,0,0,0,0,0,0,0,0,0,0,0,0,0,0,0,0,0,0,0,0,0,0,0,0,0,0,0,0,0,0,0,0,0,0,0,0,0,0,0,0,0,73,132,2,41]
def bk7:List UInt8:=[7,0,0,0,4,0,0,0,1,0,0,0,6,0,0,0,0,0,0,0,0,0,0,0,8,0,0,0,0,0,0,0,0,0,0,0,0,0,0,0,0,0,0,0,0,0,0,0,0,0,0,0,0,0,0,0,0,0,0,0,0,0,0,0,0,0,0,0,0,0,0,0,0,0,0,0,0,0,0,0,0,0,0,0,0,0,0,0,0,0,0,0,0,0,0,0,0,0,0,0,0,0,0,0,0,0,0,0,0,0,0,0,0,0,0,0,0,0,0,0,0,0,0,0,0,0,0,0,0,0,0,0,0,0,0,0,0,0,0,0,0,0,0,0,0,0,0,0,0,0,0,0,0,0,0,0,0,0,0,0,0,0,0,0,0,0,0,0,0,0,0,0,0,0,0,0,0,0,0,0,0,0,0,0,0,0,0,0,0,0,0,0,0,0,0,0,0,0,0,0,0,0,0,0,0,0,0,0,0,0,0,0,0,0,0,0,0,0,0,0,0,0,0,0,0,0,0,0,0,0,0,0,0,0,0,0,0,0,0,0,0,0,0,0,0,0,0,0,0,0,0,0,97,210,193,73]
set_option maxRecDepth 100000
theorem wG:Bq 1 0 (Dv Vk)=bk0:=by kernel_rfl
theorem wH:Bq 2 (0+1) (EB 1)=bk1:=by kernel_rfl
theorem wI:Bq 2 (1+1) (EB 3)=bk2:=by kernel_rfl
theorem wJ:Bq 2 (2+1) (EB 4)=cZ:=by kernel_rfl
theorem wK:Bq 2 (3+1) (EB 5)=ji:=by kernel_rfl
theorem wL:Bq 2 (4+1) (EB 5)=o6:=by kernel_rfl
theorem wM:Bq 3 (5+1) Fq=wD:=by kernel_rfl
theorem wN:Bq 4 (6+1) (Ih QO)=bk7:=by kernel_rfl
def zs (n:Nat):List UInt8:=List.replicate n 0
def Gy:List UInt8:=bk0++(bk1++(bk2++(cZ++(ji++(o6++(wD++bk7))))))
theorem ABE:Jm Fs ((0+1:Nat):Int) bk1=zs 256++(bk1++zs 1536):=by kernel_rfl
theorem ABF:Jm (zs 256++(bk1++zs 1536)) ((1+1:Nat):Int) bk2=zs 256++(bk1++(bk2++zs 1280)):=by kernel_rfl
theorem ABG:Jm (zs 256++(bk1++(bk2++zs 1280))) ((2+1:Nat):Int) cZ=zs 256++(bk1++(bk2++(cZ++zs 1024))):=by kernel_rfl
theorem ABH:Jm (zs 256++(bk1++(bk2++(cZ++zs 1024)))) ((3+1:Nat):Int) ji=zs 256++(bk1++(bk2++(cZ++(ji++zs 768)))):=by kernel_rfl
theorem ABJ:Jm (zs 256++(bk1++(bk2++(cZ++(ji++zs 768))))) ((4+1:Nat):Int) o6=zs 256++(bk1++(bk2++(cZ++(ji++(o6++zs 512))))):=by kernel_rfl
theorem ABK:Jm (zs 256++(bk1++(bk2++(cZ++(ji++(o6++zs 512)))))) ((5+1:Nat):Int) wD=zs 256++(bk1++(bk2++(cZ++(ji++(o6++(wD++zs 256)))))):=by kernel_rfl
theorem ABL:Jm (zs 256++(bk1++(bk2++(cZ++(ji++(o6++(wD++zs 256))))))) ((6+1:Nat):Int) bk7=zs 256++(bk1++(bk2++(cZ++(ji++(o6++(wD++bk7)))))):=by kernel_rfl
theorem ABM:Jm (zs 256++(bk1++(bk2++(cZ++(ji++(o6++(wD++bk7))))))) 0 bk0=Gy:=by kernel_rfl
theorem wO:rX=Gy:=by
 unfold rX Jd V3 Dq
 rw [wH,ABE,wI,ABF,wJ,ABG,wK,ABH,wL,ABJ,wM,ABK,wN,ABL,wG,ABM]
end
end Go.Proofs.YtpenklpdjpkigaaGreat
