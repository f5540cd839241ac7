/- A part of the proof: WSlotsPut, WPlotLay, WPlotLay1, WPlotData. -/
import Derived.Test.YthblbddmcdnllaaGreatDoorX16
import Derived.Test.YthblbddmcdnllaaGreatDoorX42
import Derived.Test.YthblbddmcdnllaaGreatDoorX24
import Derived.Test.YthblbddmcdnllaaGreatDoorX15
import Derived.Test.YthblbddmcdnllaaGreatDoorX41
import Derived.Test.YthblbddmcdnllaaGreatDoorX36
import Derived.Test.YthblbddmcdnllaaGreatDoorY1
set_option maxHeartbeats 6400000
set_option linter.unusedVariables false
set_option linter.unusedSimpArgs false
namespace Go.Proofs.YthblbddmcdnllaaGreatDoor
section
open Go.RowKit Go.Shelf
def H9:List (Nat × Int):=[(4,1)]
theorem VR:∀ f∈H9,EG f:=by
 intro f hf
 simp only [H9,List.mem_cons,List.not_mem_nil,or_false] at hf
 subst hf
 exact ⟨.inr (.inr (.inl rfl)),by decide,by decide,.inr (by decide)⟩
theorem Za (w:World):Calls Tryz.prog 81 #[.slice (some ⟨w.heap.size,0,none⟩) 1 1] (w.alloc (.cells #[.int .i64 4,.int .i64 1] 168)) fun e w'=>(∃ A c,e=.returned (.tuple #[.slice A 4 c,.int .i64 0])∧w'.ownsRow w.heap.size 5 1 (.slice A 4 c) 4 (AA AX (Aj H9)))∧Below w.heap.size w w':=by
 have b16:=heap_alloc_new w (.cells #[.int .i64 4,.int .i64 1] 168)
 have h9:=Hl (w.alloc (.cells #[.int .i64 4,.int .i64 1] 168)) _ (.slice (some ⟨w.heap.size,0,none⟩) 1 1) H9 (fun b hb=>hb) (I7 (fs:=H9) b16 (by decide)) VR (by decide)
 refine h9.mono ?_
 rintro e w' ⟨⟨A,c,rfl,ho⟩,hB⟩
 have hB1:Below w.heap.size w (w.alloc (.cells #[.int .i64 4,.int .i64 1] 168)):=(Below.refl _ _).alloc (Nat.le_refl _) _
 exact ⟨⟨A,c,rfl,ho.mono hB1.size⟩,hB1.trans (hB.mono hB1.size)⟩
def Fs (sb:List UInt8):List UInt8:=Aj H9++sb++List.replicate 224 0
theorem Oh (sb:List UInt8):AA AX (Aj H9)++AA AX sb++List.replicate 224 (Value.int .u8 0)=AA AX (Fs sb):=by
 unfold Fs
 have h:AA AX (List.replicate 224 0)=List.replicate 224 (Value.int .u8 0):=by
  rw [BQ,List.map_replicate]
  rfl
 rw [BK,BK,h]
set_option maxRecDepth 100000 in
theorem VS (w:World) (g c:Nat) (b f s:Int) (sb:List UInt8) (hsb:Fb EX [b,f,s]=sb) (hl:sb.length=16) (hg:g<w.heap.size) (h0:w.cell? ⟨g,0,none⟩=some (.int .i64 b)) (h1:w.cell? ⟨g,1,none⟩=some (.int .i64 f)) (h2:w.cell? ⟨g,2,none⟩=some (.int .i64 s)) :
 Calls Tryz.prog 76 #[.slice (some ⟨g,0,none⟩) 1 c] w fun e w'=>(∃ A c',e=.returned (.tuple #[.slice A 244 c',.int .i64 0])∧w'.ownsRow w.heap.size 5 1 (.slice A 244 c') 244 (AA AX (Fs sb)))∧Below w.heap.size w w':=by
 have RP:=qh (Za w)
 have dV:=qh (fun w'=>Uc w' b f s)
 rw [hsb] at dV
 have yR:Hid (∀ w',Below w.heap.size w w'→w'.cell? ⟨g,0,none⟩=some (.int .i64 b)∧w'.cell? ⟨g,1,none⟩=some (.int .i64 f)∧w'.cell? ⟨g,2,none⟩=some (.int .i64 s)):=fun w' hB=>⟨AY hB hg h0,AY hB hg h1,AY hB hg h2⟩
 have Yj:Hid ((BJ sb).size=16):=by show _=_;rw [IB,hl]
 have XI:=qh (MX sb)
 have kT:=qh (Oh sb)
 have hne:(BJ sb).toList.isEmpty=false:=by
  rw [UE]
  cases sb with
  | nil=>cases hl
  | cons a l=>rfl
 obtain ⟨st,hst⟩:∃ q,BJ sb=q:=⟨_,rfl⟩
 rw [hst] at dV Yj XI hne
 clear hsb hl hg h0 h1 h2 hst
 generalize AA AX (Fs sb)=fin at *
 generalize AA AX (Aj H9)=pk at *
 generalize AA AX sb=sc at *
 go_enter Tryz.func76,Tryz.ntmps76
 go_upto_region 4 with (go_at_call 81;(with_reducible refine RP.out.mono ?_);rintro e w2 ⟨⟨A4,c4,rfl,ZV⟩,hB2⟩;have ZW:=qh ZV;have HB2:=qh hB2;clear ZV hB2)
 rename World=>w2
 clear RP
 go_upto_region 5 with fail
 go_loopw [4,22] (fun v4 vi wr=>(vi=.int .i64 0∧v4=.slice A4 4 c4∧wr=w2)∨(vi=.int .i64 1∧∃ A7 c7,v4=.slice A7 20 c7∧Hid (wr.ownsRow w.heap.size 5 1 (.slice A7 20 c7) 20 (pk++sc))∧Hid (Below w.heap.size w wr))) (fun _ vi _=>1-(intOf vi).toNat)
 case atStart=>exact .inl ⟨rfl,rfl,rfl⟩
 case round =>
  rcases hrel with ⟨rfl,rfl,hwr⟩|⟨rfl,A7,c7,rfl,X6,Es⟩
  · rw [hwr]
    clear hwr wr
    obtain ⟨x0,x1,x2⟩:=yR.out w2 HB2.out
    go_upto_region 7 with fail
    have hB3:Below w2.heap.size w2 (w2.alloc (.cells #[.int .i64 b,.int .i64 f,.int .i64 s] 153)):=(Below.refl _ _).alloc (Nat.le_refl _) _
    have hbx:=AL.new w2 #[.int .i64 b,.int .i64 f,.int .i64 s] 153
    generalize w2.alloc (.cells #[.int .i64 b,.int .i64 f,.int .i64 s] 153)=w3 at *
    have y0:=hbx.at 0 _ rfl
    have y1:=hbx.at 1 _ rfl
    have y2:=hbx.at 2 _ rfl
    have HB3:=qh hB3
    clear hbx hB3 x0 x1 x2
    go_upto_region 8 with (go_at_call 69;(with_reducible refine (dV.out _).mono ?_);rintro e w4 ⟨rfl,hB4⟩;have EQ:=qh hB4;clear hB4)
    rename World=>w4
    have QX:Hid (Below w2.heap.size w2 w4):=HB3.out.trans (EQ.out.mono HB3.out.size)
    have Oi:Hid (Below w.heap.size w w4):=HB2.out.trans (QX.out.mono HB2.out.size)
    have KR:=qh (own_below ZW.out QX.out (Nat.le_refl _))
    clear y0 y1 y2 dV yR
    obtain ⟨i0,hi0,hz0,hz1,hz2⟩:=info_parts JL
    go_wp2_with (at_builtin;go_loud (refine Lib.wpList_append_own_string _ rfl _ _ _ _ rfl w.heap.size 5 i0 Tryz.underlying82 Tryz.underlying9 hi0 hz0 hz1 hz2 (.slice A4 4 c4) 4 pk rfl KR.out st rfl (by rw [Yj.out];decide) (by rw [Yj.out];decide) Oi.out.size ?_);intro v7 w7 Ih IG iM;rw [Yj.out,XI.out] at Ih;obtain ⟨A7,c7,rfl,uf⟩:=DK Ih;have X6:=qh Ih;have Es:Hid (Below w.heap.size w w7):=Oi.out.grown IG Oi.out.size (fun k e=>(KR.out.lt k e).1);clear Ih IG iM)
    go_roundw
    case rel=>exact .inr ⟨rfl,A7,c7,rfl,X6,Es⟩
    case measure=>simp [intOf]
  · obtain ⟨i0,hi0,hz0,hz1,hz2⟩:=info_parts JL
    obtain ⟨g7,ug,-,-,-⟩:=BS X6.out (by omega)
    subst ug
    obtain ⟨g8,c8,w8,je,Td,Du⟩:=Ht (P:=Tryz.prog) wr w.heap.size 82 3 82 5 i0 .i64 Tryz.underlying82 Tryz.underlying3 hi0 hz0 hz1 hz2 g7 20 c7 (pk++sc) X6.out 224 (by omega) (by omega) (by omega) Es.out.size
    rw [kT.out] at Td
    have IU:=qh Td
    have Gf:Hid (Below w.heap.size w w8):=Es.out.grown Du Es.out.size (fun k e=>(X6.out.lt k (by rw [← e];rfl)).1)
    clear Td Du hi0 hz0 hz1 hz2
    have Rt:=qh je
    clear je
    go_wp2_with (at_builtin;go_loud (refine Lib.wpList_append_run _ rfl _ _ _ _ rfl _ _ rfl rfl _ _ Rt.out ?_))
    refine bodyPost_ret (v:=.tuple #[.slice (some ⟨g8,0,none⟩) 244 c8,.int .i64 0]) (by simp [results,Tryz.results76,go_sem]) rfl ⟨⟨_,_,rfl,IU.out⟩,Gf.out⟩
end
section
open Go.RowKit Go.Shelf
theorem Xg (w:World) (a c:Value):Calls Tryz.prog 67 #[a,.slice none 0 0,c] w fun e w'=>e=.returned .nilIface∧w'=w:=by
 go_enter Tryz.func67,Tryz.ntmps67
 go_wp2_with fail
 go_loopw [17] (fun vi wr=>vi=.int .i64 0∧wr=w) (fun vi _=>1)
 case atStart=>exact ⟨rfl,rfl⟩
 case round =>
  obtain ⟨rfl,hwr⟩:=hrel
  rw [hwr]
  clear hwr wr
  go_wp2_with fail
  refine bodyPost_ret (v:=.nilIface) (by simp [results,Tryz.results67,go_sem]) rfl ⟨rfl,rfl⟩
def IQ (w w':World) (gb:Nat) (no f s:Int):Prop:=∃ gs cs,AL w' gb #[.slice (some ⟨gs,0,none⟩) 1 cs] 164∧w.heap.size≤gs∧gs<w'.heap.size∧w'.cell? ⟨gs,0,none⟩=some (.int .i64 no)∧w'.cell? ⟨gs,1,none⟩=some (.int .i64 f)∧w'.cell? ⟨gs,2,none⟩=some (.int .i64 s)
set_option maxRecDepth 100000 in
theorem Zb (w:World) (gb:Nat) (no f s:Int) (hb:AL w gb #[.slice none 0 0] 164) :
 Calls Tryz.prog 75 #[.agg #[.int .i64 no,.int .i64 f,.int .i64 s],.pointer (some ⟨gb,0,none⟩)] w fun e w'=>e=.returned (.tuple #[])∧IQ w w' gb no f s∧Touch (fun x=>x=gb) w w':=by
 have hbx:=AL.new w #[.int .i64 no,.int .i64 f,.int .i64 s] 153
 have hBx:Below w.heap.size w (w.alloc (.cells #[.int .i64 no,.int .i64 f,.int .i64 s] 153)):=(Below.refl _ _).alloc (Nat.le_refl _) _
 go_enter Tryz.func75,Tryz.ntmps75
 go_upto_region 1 with fail
 generalize w.alloc (.cells #[.int .i64 no,.int .i64 f,.int .i64 s] 153)=w1 at *
 have hb1:=hb.below hBx hb.lt
 have x0:w1.cell? ⟨w.heap.size,0,none⟩=some (.int .i64 no):=hbx.at 0 _ rfl
 have x1:w1.cell? ⟨w.heap.size,1,none⟩=some (.int .i64 f):=hbx.at 1 _ rfl
 have x2:w1.cell? ⟨w.heap.size,2,none⟩=some (.int .i64 s):=hbx.at 2 _ rfl
 have b0:w1.cell? ⟨gb,0,none⟩=some (.slice none 0 0):=hb1.at 0 _ rfl
 have HB1:=qh hBx
 have yS:=qh hb1
 have Uh:=qh hb.lt
 clear hbx hBx hb hb1
 go_wp2_with (at_builtin;go_loud (refine Bl Tryz.underlying164 NQ rfl (by omega) (by omega) rfl _ _ rfl w1.heap.size (.slice none 0 0) 0 [] rfl (World.ownsRow_nil _ _ _ _) ⟨w1.heap.size,0,none⟩ 1 1 [.int .i64 no,.int .i64 f,.int .i64 s] rfl (by rfl) (Cm w1 [.int .i64 no,.int .i64 f,.int .i64 s] _) (by intro u hu;simp at hu;rcases hu with rfl|rfl|rfl <;> rfl) (by omega) (by simp) ?_);intro A7 RU w7 Ih IG;have X6:=qh Ih;have Es:Hid (Below w1.heap.size w1 w7):=((Below.refl _ _).alloc (Nat.le_refl _) _).grown IG (by simp) (fun k e=>by cases e);clear Ih IG;have Ux:=qh (yS.out.below Es.out yS.out.lt);have b7:w7.cell? ⟨gb,0,none⟩=some (.slice none 0 0):=Ux.out.at 0 _ rfl;have f7:=Ux.out.free 0;have l7:=Ux.out.lt)
 rename World=>w7
 obtain ⟨gs,ug,lY,-,hcs⟩:=BS X6.out (by omega)
 subst ug
 have hrl:=X6.out.lt gs rfl
 have hne:gs≠gb:=fun e=>by have:=Uh.out;have:=HB1.out.size;omega
 have hT:Touch (fun x=>x=gb) w7 (w7.setCell ⟨gb,0,none⟩ (.slice (some ⟨gs,0,none⟩) 1 RU)):=Touch.BZ (R:=fun x=>x=gb) (p:=⟨gb,0,none⟩) rfl
 have hk:∀ o u,w7.cell? ⟨gs,o,none⟩=some u→(w7.setCell ⟨gb,0,none⟩ (.slice (some ⟨gs,0,none⟩) 1 RU)).cell? ⟨gs,o,none⟩=some u:=fun o u h=>(World.cell?_of_block (a:=⟨gs,o,none⟩) (hT.block hrl.2 hne)).trans h
 have uh:Below w.heap.size w w7:=HB1.out.trans (Es.out.mono HB1.out.size)
 have HF:Hid (IQ w (w7.setCell ⟨gb,0,none⟩ (.slice (some ⟨gs,0,none⟩) 1 RU)) gb no f s∧Touch (fun x=>x=gb) w (w7.setCell ⟨gb,0,none⟩ (.slice (some ⟨gs,0,none⟩) 1 RU))):=by
  refine ⟨⟨gs,RU,Ux.out.set 0 _,by have:=HB1.out.size;omega,by rw [World.size_setCell];exact hrl.2,hk 0 _ ?_,hk 1 _ ?_,hk 2 _ ?_⟩,(Touch.of_below uh).trans hT⟩
  · have:=hcs 0 _ rfl;rwa [add_lit] at this
  · have:=hcs 1 _ rfl;rwa [add_lit] at this
  · have:=hcs 2 _ rfl;rwa [add_lit] at this
 refine bodyPost_end (results_none rfl _ _ _) rfl ⟨rfl,HF.out⟩
end
section
open Go.RowKit Go.Shelf
set_option maxRecDepth 100000 in
theorem Xh (w:World) (base a img gl n c k:Nat) (bs:List UInt8) (gr cr gi ci gb:Nat) (h:Az w base a img gl n c k bs) (hk:k<n) (hn:n≤14000) (hj:(k+1)*256+256≤bs.length) (hbl:bs.length≤3686400) (hb:base≤w.heap.size) (hr:w.cell? ⟨gr,0,none⟩=some (.slice (some ⟨gi,0,none⟩) 8 ci)) (hi:gi<w.heap.size) (hc:∀ i,i<8→w.cell? ⟨gi,i,none⟩=some (.int .i64 1)) (hX:AL w gb #[.slice none 0 0] 164) (hN:¬ Bo w a img gi) :
 Calls Tryz.prog 67 #[.pointer (some ⟨a,0,none⟩),.slice (some ⟨gr,0,none⟩) 1 cr,.func (.func 75) #[] #[.pointer (some ⟨gb,0,none⟩)]] w fun e w'=>e=.returned .nilIface∧Az w' base a img gl n c (k+1) (Gv bs ((k+1:Nat):Int) (BG 3 (k+1) EN))∧IQ w w' gb ((k+1:Nat):Int) 0 8∧Touch (fun x=>Bo w a img x∨x=gb) w w':=by
 have Vg:=qh (Xf w gi ci hi hc)
 have Vh:Hid (∀ w2 A6 c6,Below w.heap.size w w2→w2.ownsRow w.heap.size 5 1 (.slice A6 244 c6) 244 (AA AX EN)→Calls Tryz.prog 77 #[.pointer (some ⟨a,0,none⟩),.int .i64 3,.slice A6 244 c6] w2 fun e w'=>e=.returned (.tuple #[.int .i64 ((k+1:Nat):Int),.nilIface])∧Az w' base a img gl n c (k+1) (Gv bs ((k+1:Nat):Int) (BG 3 (k+1) EN))∧Touch (Bo w a img) w2 w'):=fun w2 A6 c6 hB ho=>by
  have hlt:a<w.heap.size:=AL.lt h.1
  have h9:=XY w2 (Fu w.heap.size w2.heap.size) base a img gl n c k bs 3 (.slice A6 244 c6) EN (fun b hb=>hb.2) (fun hb=>by have:=hb.1;omega) (h.below hB) hk hn (Bp.own DY ho (by omega)) (by decide) (by omega) (by omega) hj hbl
  refine h9.mono ?_
  rintro e w' ⟨h1,h2,h3⟩
  exact ⟨h1,h2,h3.weak (CJ h.2.1 hB)⟩
 have oU:Hid (∀ w3,(∀ i,i<8→w3.cell? ⟨gi,i,none⟩=some (.int .i64 1))→Calls Tryz.prog 113 #[.slice (some ⟨gi,0,none⟩) 8 ci] w3 fun e w'=>e=.returned (.tuple #[.int .i64 0,.int .i64 8])∧w'=w3):=fun w3 h3 =>
  Nc w3 gi 0 8 ci (fun _=>1) (fun i hi=>⟨by rw [Nat.zero_add];exact h3 i hi,by decide⟩) (by decide)
 have jX:=qh (fun w3 (hb:AL w3 gb #[.slice none 0 0] 164)=>Zb w3 gb ((k+1:Nat):Int) 0 8 hb)
 have iN:=qh (Ce h hX (by decide) (by decide))
 have HC:=qh hc
 have HI:=qh hi
 have HN:=qh hN
 have HX:=qh hX
 clear h hk hn hj hbl hb hi hc hX hN
 obtain ⟨no,hno⟩:∃ x,k+1=x:=⟨_,rfl⟩
 rw [hno] at Vh jX ⊢
 clear hno
 obtain ⟨Bs,yT⟩:∃ x,Gv bs (no:Int) (BG 3 no EN)=x:=⟨_,rfl⟩
 rw [yT] at Vh ⊢
 clear yT
 go_enter Tryz.func67,Tryz.ntmps67
 go_upto_region 2 with fail
 go_loopw [17] (fun vi wr=>(vi=.int .i64 0∧wr=w)∨(vi=.int .i64 1∧Hid (Az wr base a img gl n c no Bs∧IQ w wr gb no 0 8∧Touch (fun x=>Bo w a img x∨x=gb) w wr))) (fun vi _=>1-(intOf vi).toNat)
 case atStart=>exact .inl ⟨rfl,rfl⟩
 case round =>
  rcases hrel with ⟨rfl,hwr⟩|⟨rfl,HF⟩
  · rw [hwr]
    clear hwr wr
    go_upto_region 5 with (go_at_call 112;(with_reducible refine Vg.out.mono ?_);rintro e w2 ⟨⟨A6,c6,rfl,ho⟩,hB⟩;have HO:=qh ho;have HB:=qh hB;clear ho hB)
    rename World=>w2
    have lZ:=qh (Vh.out w2 A6 c6 HB.out HO.out)
    clear hr Vh Vg
    go_upto_region 8 with (go_at_call 77;(with_reducible refine lZ.out.mono ?_);rintro e w3 ⟨rfl,ha,hT⟩;have HA:=qh ha;have HT:=qh hT;clear ha hT)
    rename World=>w3
    have oV:Hid (Touch (Bo w a img) w w3):=(Touch.of_below HB.out).trans HT.out
    have ui:=qh (oU.out w3 (fun i hi=>(World.cell?_of_block (a:=⟨gi,i,none⟩) (oV.out.block HI.out HN.out)).trans (HC.out i hi)))
    have Ve:Hid (AL w3 gb #[.slice none 0 0] 164):=(oV.out.block HX.out.lt iN.out).trans HX.out
    have uj:=qh (jX.out w3 Ve.out)
    clear oU jX lZ HT HC HI HN
    go_wp2_with (first
     | (go_at_call 113;(with_reducible refine ui.out.mono ?_);rintro e w4 ⟨rfl,hw⟩;rw [hw];clear hw w4)
     | (go_at_call 75;(with_reducible refine uj.out.mono ?_);rintro e w4 ⟨rfl,ho,hT⟩;have ZW:=qh ho;have P9:=qh hT;clear ho hT))
    rename World=>w4
    have HF:Hid (Az w4 base a img gl n c no Bs∧IQ w w4 gb no 0 8∧Touch (fun x=>Bo w a img x∨x=gb) w w4):=by
     refine ⟨HA.out.touch P9.out Ve.out (by decide) (by decide) (by decide) (by decide),?_,(oV.out.weak (fun x hx=>.inl hx)).trans (P9.out.weak (fun x hx=>.inr hx))⟩
     obtain ⟨gs,cs,p1,p2,p3⟩:=ZW.out
     exact ⟨gs,cs,p1,Nat.le_trans oV.out.size p2,p3⟩
    go_roundw
    case rel=>exact .inr ⟨rfl,HF⟩
    case measure=>simp [intOf]
  · go_wp2_with fail
    refine bodyPost_ret (v:=.nilIface) (by simp [results,Tryz.results67,go_sem]) rfl ⟨rfl,HF.out⟩
end
section
open Go.RowKit Go.Shelf
theorem Sg (w:World) (base a img gl n c k:Nat) (bs:List UInt8) (t:Int) (h1:1≤t) (h5:t≤5) (h:Az w base a img gl n c k bs) (hk:k<n) (hc:n≤c) (hn:n≤14000) (hj:(k+1)*256+256≤bs.length) (hbl:bs.length≤3686400) (hb:base≤w.heap.size) :
 Calls Tryz.prog 70 #[.pointer (some ⟨a,0,none⟩),.int .i64 t,.slice none 0 0] w fun e w'=>e=.returned (.tuple #[.int .i64 ((k+1:Nat):Int),.nilIface])∧Az w' base a img gl n c (k+1) (Cf bs k t)∧Touch (Bo w a img) w w':=af w base a img gl n c k bs t h1 h5 h hk hc hn hj hbl hb
set_option maxRecDepth 100000 in
theorem VT (w:World) (base a img gl n c k:Nat) (bs:List UInt8) (A:Option Addr) (cc:Nat) (h:Az w base a img gl n c k bs) (hk:k+1<n) (hc:n≤c) (hn:n≤14000) (hj:(k+2)*256+256≤bs.length) (hbl:bs.length≤3686400) (hb:base≤w.heap.size) :
 Calls Tryz.prog 36 #[.pointer (some ⟨a,0,none⟩),.slice A 0 cc] w fun e w'=>e=.returned (.tuple #[.int .i64 ((k+1:Nat):Int),.int .i64 ((k+2:Nat):Int),.nilIface])∧Az w' base a img gl n c (k+2) (Cf (Cf bs k 4) (k+1) 5)∧Touch (Bo w a img) w w':=by
 have Sb:=qh (fun w' (hs:Az w' base a img gl n c k bs)=>Ji w' a img n c _ _ hs.1)
 have IJ:=qh (fun w' (hs:Az w' base a img gl n c k bs)=>SX w' a img n c gl k hs.1 (by omega) hc (by omega))
 have MP:=qh (fun w'=>GV w' 4 (by omega) (by omega))
 have QD:=qh (fun w'=>GV w' 5 (by omega) (by omega))
 have NM:=qh (fun w'=>eT w' A cc)
 have Ow:=qh (fun w' a c=>Xg w' a c)
 have HT1:=qh (fun w' (hs:Az w' base a img gl n c k bs) (hb:base≤w'.heap.size)=>Sg w' base a img gl n c k bs 4 (by omega) (by omega) hs (by omega) hc hn (by omega) hbl hb)
 have HT2:=qh (fun w' (hs:Az w' base a img gl n c (k+1) (Cf bs k 4)) (hb:base≤w'.heap.size)=>Sg w' base a img gl n c (k+1) (Cf bs k 4) 5 (by omega) (by omega) hs hk hc hn (by rw [Ca];omega) (by rw [Ca];exact hbl) hb)
 have JC:=qh h.2.1
 have EP:=qh h.Tk
 have HH:=qh h
 have IL:=qh hb
 have hlf:¬ ((n-k:Nat):Int)<2:=by omega
 clear h hk hc hn hj hbl hb
 obtain ⟨n1,hn1⟩:∃ x,k+1=x:=⟨_,rfl⟩
 obtain ⟨n2,hn2⟩:∃ x,n1+1=x:=⟨_,rfl⟩
 have WI:k+2=n2:=by omega
 rw [hn1] at HT1 HT2
 rw [hn2] at HT2
 rw [WI,hn1]
 clear hn1 hn2 WI
 obtain ⟨lf,hlx⟩:∃ x,((n-k:Nat):Int)=x:=⟨_,rfl⟩
 rw [hlx] at IJ hlf
 have hld:=decide_eq_false hlf
 clear hlx hlf
 go_enter Tryz.func36,Tryz.ntmps36
 have AAV:=HH
 go_upto_region 4 with (first
  | (go_at_call 34;(with_reducible refine (Sb.out _ HH.out).mono ?_);rintro e w2 ⟨rfl,hw⟩;rw [hw];clear hw w2)
  | (go_at_call 64;(with_reducible refine (NM.out _).mono ?_);rintro e w2 ⟨rfl,hB⟩;have HB2:=qh hB;clear hB))
 rename World=>w2
 have Jj:=qh (HH.out.below HB2.out)
 go_upto_region 8 with (first
  | (go_at_call 65;(with_reducible refine (IJ.out _ Jj.out).mono ?_);rintro e w3 ⟨rfl,hB⟩;have HB3:=qh hB;clear hB)
  | (go_at_call 66;(with_reducible refine (MP.out _).mono ?_);rintro e w4 ⟨rfl,hB⟩;have EQ:=qh hB;clear hB)
  | (go_at_call 66;(with_reducible refine (QD.out _).mono ?_);rintro e w5 ⟨rfl,hB⟩;have DT:=qh hB;clear hB))
 rename World=>w5
 have fE:Hid (Below w2.heap.size w2 w5):=(HB3.out.trans (EQ.out.mono HB3.out.size)).trans (DT.out.mono (Nat.le_trans HB3.out.size EQ.out.size))
 go_upto_region 9 with fail
 have hb6:=AL.new w5 #[.slice none 0 0] 139
 have FP:Below w5.heap.size w5 (w5.alloc (.cells #[.slice none 0 0] 139)):=(Below.refl _ _).alloc (Nat.le_refl _) _
 generalize w5.alloc (.cells #[.slice none 0 0] 139)=w6 at *
 have x6:w6.cell? ⟨w5.heap.size,0,none⟩=some (.slice none 0 0):=hb6.at 0 _ rfl
 have Oj:Hid (Below w.heap.size w w6):=(HB2.out.trans (fE.out.mono HB2.out.size)).trans (FP.mono (Nat.le_trans HB2.out.size fE.out.size))
 have uk:=qh (HH.out.below Oj.out)
 have HT6:=qh (HT1.out w6 uk.out (by have:=IL.out;have:=Oj.out.size;omega))
 have iF:∀ (fn:Fn) (first cap:Array Value) (w:World),(Instr.makeFunc fn first cap).run Tryz.prog w=.ok (.func fn first cap) w:=fun _ _ _ _=>rfl
 clear hb6 FP HT1 Sb IJ MP QD NM Jj HB2 HB3 EQ DT fE hld
 go_upto_region 13 with (first
  | (go_at_call 67;(with_reducible refine (Ow.out _ _ _).mono ?_);rintro e w7 ⟨rfl,hw⟩;rw [hw];clear hw w7)
  | (go_at_call 70;(with_reducible refine HT6.out.mono ?_);rintro e w7 ⟨rfl,ha,hT⟩;have uS:=qh ha;have dh:=qh hT;clear ha hT))
 rename World=>w7
 have Js:=qh (HT2.out w7 uS.out (by have:=IL.out;have:=Oj.out.size;have:=dh.out.size;omega))
 clear x6 HT2
 go_wp2_with (go_at_call 70;(with_reducible refine Js.out.mono ?_);rintro e w8 ⟨rfl,ha,hT⟩;have ul:=qh ha;have um:=qh hT;clear ha hT)
 have t1:Touch (Bo w a img) w w7:=(Touch.of_below Oj.out).trans (dh.out.weak (CJ JC.out Oj.out))
 refine bodyPost_ret (v:=.tuple #[.int .i64 n1,.int .i64 n2,.nilIface]) (by simp [results,Tryz.results36,go_sem]) rfl ⟨rfl,ul.out,t1.trans (um.out.weak (Eb JC.out t1 EP.out))⟩
end
end Go.Proofs.YthblbddmcdnllaaGreatDoor
