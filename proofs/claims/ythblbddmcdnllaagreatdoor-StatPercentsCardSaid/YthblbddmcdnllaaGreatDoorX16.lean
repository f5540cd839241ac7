/- A part of the proof: WVSlot, WVSlotR, WSlotsR, WTall0. -/
import Derived.Test.YthblbddmcdnllaaGreatDoorX15
import Derived.Test.YthblbddmcdnllaaGreatDoorY1
import Derived.Test.YthblbddmcdnllaaGreatDoorX8
import Derived.Test.YthblbddmcdnllaaGreatDoorX9
import Derived.Test.YthblbddmcdnllaaGreatDoorX4
import Derived.Test.YthblbddmcdnllaaGreatDoorX1
import Derived.Deep.CutBlock
import Derived.Deep.OwnRows
import Derived.Deep.Cut
import Derived.Deep.DeepCutAuto
set_option maxHeartbeats 6400000
set_option linter.unusedVariables false
set_option linter.unusedSimpArgs false
namespace Go.Proofs.YthblbddmcdnllaaGreatDoor
section
open Go.RowKit
theorem I5 (w:World):Calls Tryz.prog 114 #[] w fun e w'=>e=.returned (.slice (some ⟨w.heap.size,0,none⟩) 3 3)∧w'=w.alloc (.cells #[.int .i64 8,.int .i64 1,.int .i64 14399,.int .i64 4,.int .i64 0,.int .i64 960,.int .i64 4,.int .i64 0,.int .i64 960] 246):=by
 go_enter Tryz.func114,Tryz.ntmps114
 go_wp2
 go_ret
 exact ⟨rfl,rfl⟩
theorem WP (w:World) (gp gi:Nat) (b f s:Int) (hp:w.heap[gp]? = some (.cells #[.int .i64 8,.int .i64 1,.int .i64 14399,.int .i64 4,.int .i64 0,.int .i64 960,.int .i64 4,.int .i64 0,.int .i64 960] 246 (0,0))) (hi:w.heap[gi]? = some (.cells #[.int .i64 b,.int .i64 f,.int .i64 s] 3 (0,0))) :
 Calls Tryz.prog 105 #[.slice (some ⟨gp,0,none⟩) 3 3,.slice (some ⟨gi,0,none⟩) 3 3] w fun e w'=>e=.returned (.string (BJ (Fb EX [b,f,s])))∧Below w.heap.size w w':=by
 have hr:w.ownsRow 0 3 1 (.slice (some ⟨gi,0,none⟩) 3 3) 3 (AA encI [b,f,s]):=⟨rfl,.inr ⟨gi,3,_,rfl,Nat.zero_le _,hi,Nat.le_refl _,by decide,rfl,rfl⟩⟩
 exact OB w (fun b=>b<w.heap.size) _ _ EX [b,f,s] (fun b hb=>hb) (J5 _ (Array.getElem?_eq_some_iff.1 hp).1 hp (by rfl) rfl) ((Bp.own (l:=[b,f,s]) Bu hr (by omega)).sub (AB _) (fun b hb=>hb.2)) M3 (by decide) (Nat.le_refl 3)
set_option maxRecDepth 100000 in
theorem Uc (w:World) (b f s:Int):Calls Tryz.prog 69 #[.agg #[.int .i64 b,.int .i64 f,.int .i64 s]] w fun e w'=>e=.returned (.string (BJ (Fb EX [b,f,s])))∧Below w.heap.size w w':=by
 have hbx:=AL.new w #[.int .i64 b,.int .i64 f,.int .i64 s] 153
 have hBx:Below w.heap.size w (w.alloc (.cells #[.int .i64 b,.int .i64 f,.int .i64 s] 153)):=(Below.refl _ _).alloc (Nat.le_refl _) _
 have NM:=qh (fun (w':World) gp gi hp hi=>WP w' gp gi b f s hp hi)
 generalize BJ (Fb EX [b,f,s])=sx at *
 go_enter Tryz.func69,Tryz.ntmps69
 go_upto_region 1 with fail
 generalize w.alloc (.cells #[.int .i64 b,.int .i64 f,.int .i64 s] 153)=w1 at *
 have HB1:=qh hBx
 have HX:=qh hbx
 clear hbx hBx
 refine AJ (T:=fun _=>false) (S:=fun w'=>Below w1.heap.size w1 w') (by kernel_rfl) (Below.refl w1.heap.size w1).drew (fun hHeld=>?_)
 obtain ⟨BN,hw0⟩:∃ x,w1.drew=x:=⟨_,rfl⟩
 rw [hw0] at hHeld ⊢
 have AF:Below w1.heap.size w1 BN:=hHeld
 clear hHeld hw0
 refine qs 1 4 AF ?_
 refine qf 2 5 rfl rfl AF (by intro w2' hSw;have x0:=(HX.out.below hSw HX.out.lt).at 0 _ rfl;go_simp;(try with_reducible rfl)) ?_
 refine qs 3 6 AF ?_
 refine qf 4 7 rfl rfl AF (by intro w2' hSw;have x0:=(HX.out.below hSw HX.out.lt).at 1 _ rfl;go_simp;(try with_reducible rfl)) ?_
 refine qs 5 8 AF ?_
 refine qf 6 9 rfl rfl AF (by intro w2' hSw;have x0:=(HX.out.below hSw HX.out.lt).at 2 _ rfl;go_simp;(try with_reducible rfl)) ?_
 refine FH 0 7 (oi:=_) (oj:=_) (by kernel_rfl) rfl rfl (fun K hK=>?_) (fun K hK=>?_)
 · skip
   go_simp
   refine (I5 BN).mono ?_
   rintro e BP ⟨rfl,hw⟩
   have CB:Below (World.heap BN).size BN BP:=by rw [hw];exact (Below.refl _ _).alloc (Nat.le_refl _) _
   have bp:(World.heap BP)[(World.heap BN).size]? = some (.cells #[.int .i64 8,.int .i64 1,.int .i64 14399,.int .i64 4,.int .i64 0,.int .i64 960,.int .i64 4,.int .i64 0,.int .i64 960] 246 (0,0)):=by rw [hw];exact heap_alloc_new _ _
   obtain ⟨gp,WQ⟩:∃ q,(World.heap BN).size=q:=⟨_,rfl⟩
   rw [WQ] at bp ⊢
   have AF:=AF.trans (CB.mono AF.size)
   clear hw CB WQ
   refine hK.out _ _ (fun _=>AF) (fun Cq=>?_)
   clear hK K Cq
   (try simp only [Act.put,qS,qZ,qU])
   refine qo 7 fun K hK=>?_
   go_simp
   obtain ⟨Cz,hwn⟩:∃ wx,BP.alloc (.cells #[.int .i64 b,.int .i64 f,.int .i64 s] 3)=wx:=⟨_,rfl⟩
   have CB:Below BP.heap.size BP Cz:=by rw [← hwn];exact (Below.refl _ _).alloc (Nat.le_refl _) _
   have b7:Cz.heap[BP.heap.size]? = some (.cells #[.int .i64 b,.int .i64 f,.int .i64 s] 3):=by rw [← hwn];exact heap_alloc_new BP _
   have qX:=AF.size
   have bg:BP.heap.size<Cz.heap.size:=by rw [← hwn];simp
   have AF:=AF.trans (CB.mono AF.size)
   rw [hwn]
   have bp:=Jt bp CB
   clear hwn CB
   refine hK.out _ _ (fun _=>AF) (fun Cq=>?_)
   clear hK K Cq
   (try simp only [Act.put,qS,qZ,qU])
   refine qo 8 fun K hK=>?_
   go_simp
   refine (NM.out Cz gp _ bp b7).mono ?_
   rintro e Ka ⟨rfl,CB⟩
   have AF:=AF.trans (CB.mono AF.size)
   clear CB
   refine hK.out _ _ (fun _=>AF) (fun Cq=>?_)
   clear hK K Cq
   (try simp only [Act.put,qS,qZ,qU])
   refine qs 9 2 AF ?_
   refine qd ?_
   go_wp2_with fail
   refine bodyPost_ret (v:=.string sx) (by simp [results,Tryz.results69,go_sem]) rfl ⟨rfl,HB1.out.trans (AF.mono HB1.out.size)⟩
 · skip
   go_simp
   obtain ⟨Ev,hwn⟩:∃ wx,BN.alloc (.cells #[.int .i64 b,.int .i64 f,.int .i64 s] 3)=wx:=⟨_,rfl⟩
   have CB:Below BN.heap.size BN Ev:=by rw [← hwn];exact (Below.refl _ _).alloc (Nat.le_refl _) _
   have b7:Ev.heap[BN.heap.size]? = some (.cells #[.int .i64 b,.int .i64 f,.int .i64 s] 3):=by rw [← hwn];exact heap_alloc_new BN _
   have qX:=AF.size
   have bg:BN.heap.size<Ev.heap.size:=by rw [← hwn];simp
   have AF:=AF.trans (CB.mono AF.size)
   rw [hwn]
   clear hwn CB
   refine hK.out _ _ (fun _=>AF) (fun Cq=>?_)
   clear hK K Cq
   (try simp only [Act.put,qS,qZ,qU])
   refine qo 0 fun K hK=>?_
   go_simp
   refine (I5 Ev).mono ?_
   rintro e Kc ⟨rfl,hw⟩
   have CB:Below (World.heap Ev).size Ev Kc:=by rw [hw];exact (Below.refl _ _).alloc (Nat.le_refl _) _
   have bp:(World.heap Kc)[(World.heap Ev).size]? = some (.cells #[.int .i64 8,.int .i64 1,.int .i64 14399,.int .i64 4,.int .i64 0,.int .i64 960,.int .i64 4,.int .i64 0,.int .i64 960] 246 (0,0)):=by rw [hw];exact heap_alloc_new _ _
   obtain ⟨gp,WQ⟩:∃ q,(World.heap Ev).size=q:=⟨_,rfl⟩
   rw [WQ] at bp ⊢
   have b7:=Jt b7 CB
   have AF:=AF.trans (CB.mono AF.size)
   clear hw CB WQ
   refine hK.out _ _ (fun _=>AF) (fun Cq=>?_)
   clear hK K Cq
   (try simp only [Act.put,qS,qZ,qU])
   refine qo 8 fun K hK=>?_
   go_simp
   refine (NM.out Kc gp _ bp b7).mono ?_
   rintro e RX ⟨rfl,CB⟩
   have AF:=AF.trans (CB.mono AF.size)
   clear CB
   refine hK.out _ _ (fun _=>AF) (fun Cq=>?_)
   clear hK K Cq
   (try simp only [Act.put,qS,qZ,qU])
   refine qs 9 2 AF ?_
   refine qd ?_
   go_wp2_with fail
   refine bodyPost_ret (v:=.string sx) (by simp [results,Tryz.results69,go_sem]) rfl ⟨rfl,HB1.out.trans (AF.mono HB1.out.size)⟩
end
section
open Go.RowKit
attribute [local go_sem] Oper.semAt_some
theorem RY {w:World} {b c o:Nat} (hb:b≠c) (u0 u1 u2:Value):(((w.setCell ⟨b,0,none⟩ u0).setCell ⟨b,1,none⟩ u1).setCell ⟨b,2,none⟩ u2).cell? ⟨c,o,none⟩=w.cell? ⟨c,o,none⟩:=by
 have hb':c≠b:=Ne.symm hb
 apply World.cell?_of_block
 rw [Below.heap_setCell _ ⟨b,2,none⟩ u2 c hb',Below.heap_setCell _ ⟨b,1,none⟩ u1 c hb',Below.heap_setCell _ ⟨b,0,none⟩ u0 c hb']
set_option maxRecDepth 100000 in
theorem OE (w:World) (s:List UInt8) (d0 d1 d2 E:Int) (hl:s.length≤140737488355328) (hv:Dm EX s=([d0,d1,d2],E)) :
 Calls Tryz.prog 182 #[.string (BJ s)] w fun e w'=>e=.returned (.tuple #[.agg #[.int .i64 d0,.int .i64 d1,.int .i64 d2],.int .i64 E])∧Below w.heap.size w w':=by
 have hb1:=AL.new w #[.int .i64 0,.int .i64 0,.int .i64 0] 153
 have hB1:Below w.heap.size w (w.alloc (.cells #[.int .i64 0,.int .i64 0,.int .i64 0] 153)):=(Below.refl _ _).alloc (Nat.le_refl _) _
 have h:=NL (w.alloc (.cells #[.int .i64 0,.int .i64 0,.int .i64 0] 153)) #[.int .i64 8,.int .i64 1,.int .i64 14399,.int .i64 4,.int .i64 0,.int .i64 960,.int .i64 4,.int .i64 0,.int .i64 960] EX s 3 rfl (by rfl) M3 (by decide) hl
 rw [hv] at h
 have HP:=qh (I5 (w.alloc (.cells #[.int .i64 0,.int .i64 0,.int .i64 0] 153)))
 have h4:=h.mono (R':=fun e w'=>(∃ A c,e=.returned (.tuple #[.slice A 3 c,.int .i64 E])∧∃ b off,A=some ⟨b,off,none⟩∧w.heap.size<b∧w'.cell? ⟨b,off,none⟩=some (.int .i64 d0)∧w'.cell? ⟨b,off+1,none⟩=some (.int .i64 d1)∧w'.cell? ⟨b,off+2,none⟩=some (.int .i64 d2))∧Below (w.alloc (.cells #[.int .i64 0,.int .i64 0,.int .i64 0] 153)).heap.size (w.alloc (.cells #[.int .i64 0,.int .i64 0,.int .i64 0] 153)) w') (by
  rintro e w' ⟨⟨A,c,rfl,hc⟩,hB⟩
  obtain ⟨b,off,rfl,hb,_,h1⟩:=hc (by simp)
  exact ⟨⟨_,c,rfl,b,off,rfl,by simp at hb;omega,h1 0 (by simp),h1 1 (by simp),h1 2 (by simp)⟩,hB⟩)
 have H:=qh h4
 clear h h4 hv
 go_enter Tryz.func182,Tryz.ntmps182
 go_upto_region 1 with fail
 generalize w.alloc (.cells #[.int .i64 0,.int .i64 0,.int .i64 0] 153)=w1 at *
 go_upto_region 2 with (first
  | (go_at_call 114;refine HP.out.mono ?_;rintro e w9 ⟨rfl,rfl⟩)
  | (go_at_call 201;refine H.out.mono ?_;rintro e w2 ⟨⟨A,c,rfl,b,off,rfl,hb,q0,q1,q2⟩,hB⟩))
 have hb2:=hb1.below hB hb1.lt
 have hB2:=hB1.trans (hB.mono hB1.size)
 have hb3:=((hb2.set 0 (.int .i64 d0)).set 1 (.int .i64 d1)).set 2 (.int .i64 d2)
 have r0:=hb2.at 0 _ rfl
 have r1:=hb2.at 1 _ rfl
 have r2:=hb2.at 2 _ rfl
 have f0:=hb2.free 0
 have f1:=hb2.free 1
 have f2:=hb2.free 2
 have z0:(((w2.setCell ⟨w.heap.size,0,none⟩ (.int .i64 d0)).setCell ⟨w.heap.size,1,none⟩ (.int .i64 d1)).setCell ⟨w.heap.size,2,none⟩ (.int .i64 d2)).cell? ⟨w.heap.size,0,none⟩=some (.int .i64 d0):=hb3.at 0 _ rfl
 have z1:(((w2.setCell ⟨w.heap.size,0,none⟩ (.int .i64 d0)).setCell ⟨w.heap.size,1,none⟩ (.int .i64 d1)).setCell ⟨w.heap.size,2,none⟩ (.int .i64 d2)).cell? ⟨w.heap.size,1,none⟩=some (.int .i64 d1):=hb3.at 1 _ rfl
 have z2:(((w2.setCell ⟨w.heap.size,0,none⟩ (.int .i64 d0)).setCell ⟨w.heap.size,1,none⟩ (.int .i64 d1)).setCell ⟨w.heap.size,2,none⟩ (.int .i64 d2)).cell? ⟨w.heap.size,2,none⟩=some (.int .i64 d2):=hb3.at 2 _ rfl
 have HB2:=qh hB2
 clear hB hB2 hB1 hb1 H HP hb3
 have hne:w.heap.size≠b:=by omega
 refine AJ (T:=fun _=>false) (S:=fun w'=>w'.cell? ⟨b,off,none⟩=some (.int .i64 d0)∧w'.cell? ⟨b,off+1,none⟩=some (.int .i64 d1)∧w'.cell? ⟨b,off+2,none⟩=some (.int .i64 d2)) (by kernel_rfl) (⟨q0,q1,q2⟩) (fun hHeld=>?_)
 refine qs 0 12 hHeld ?_
 refine qs 1 13 hHeld ?_
 refine qf 2 14 rfl rfl hHeld (by intro w hSw;have q0:=hSw.1;go_simp;(try with_reducible rfl)) ?_
 refine qs 3 15 hHeld ?_
 refine qs 4 16 hHeld ?_
 refine qf 5 17 rfl rfl hHeld (by intro w hSw;have q1:=hSw.2.1;go_simp;(try with_reducible rfl)) ?_
 refine qs 6 18 hHeld ?_
 refine qs 7 19 hHeld ?_
 refine qf 8 20 rfl rfl hHeld (by intro w hSw;have q2:=hSw.2.2;go_simp;(try with_reducible rfl)) ?_
 refine qs 9 21 hHeld ?_
 refine qs 10 22 hHeld ?_
 refine qo 11 fun K hK=>?_
 go_simp
 have BI:=(show World.cell? _ ⟨b,off,none⟩=some (.int .i64 d0)∧World.cell? _ ⟨b,off+1,none⟩=some (.int .i64 d1)∧World.cell? _ ⟨b,off+2,none⟩=some (.int .i64 d2) from ⟨(RY hne (.int .i64 d0) (.int .i64 d1) (.int .i64 d2)).trans hHeld.1,(RY hne (.int .i64 d0) (.int .i64 d1) (.int .i64 d2)).trans hHeld.2.1,(RY hne (.int .i64 d0) (.int .i64 d1) (.int .i64 d2)).trans hHeld.2.2⟩)
 clear hHeld
 have hHeld:=BI
 clear BI
 refine hK.out _ _ (fun _=>hHeld) (fun Cq=>?_)
 clear hK K Cq
 (try simp only [Act.put,qS])
 refine qs 12 3 hHeld ?_
 refine qd ?_
 go_wp2_with fail
 refine bodyPost_ret (v:=.tuple #[.agg #[.int .i64 d0,.int .i64 d1,.int .i64 d2],.int .i64 E]) (by simp [results,Tryz.results182,go_sem,z0,z1,z2]) rfl ⟨rfl,?_⟩
 exact (((HB2.out.setCell (p:=⟨w.heap.size,0,none⟩) (Nat.le_refl _) (.int .i64 d0)).setCell (p:=⟨w.heap.size,1,none⟩) (Nat.le_refl _) (.int .i64 d1)).setCell (p:=⟨w.heap.size,2,none⟩) (Nat.le_refl _) (.int .i64 d2)).drew
end
section
open Go.RowKit
attribute [local go_sem] Oper.semAt_some
theorem WW (w:World) (g:Nat) (s0:ByteArray) (hb:AL w g #[.string s0] 9) (hs:16≤s0.size) :
 Calls Tryz.prog 200 #[.pointer (some ⟨g,0,none⟩)] w fun e w'=>e=.returned (.string (s0.extract 0 16))∧w'=w.setCell ⟨g,0,none⟩ (.string (s0.extract 16 s0.size)):=by
 have x0:w.cell? ⟨g,0,none⟩=some (.string s0):=hb.at 0 _ rfl
 have f0:=hb.free 0
 have hl:=hb.lt
 clear hb
 go_enter Tryz.func200,Tryz.ntmps200
 go_wp2
 go_ret
 exact ⟨rfl,rfl⟩
theorem NQ:(Tryz.prog.info? 153).map (fun i=>(i.zero,i.size,i.bytes))=some (some (.agg #[.int .i64 0,.int .i64 0,.int .i64 0]),3,24):=by kernel_rfl
set_option maxRecDepth 100000 in
theorem RZ (w:World) (S:Nat→Prop) (v:Value) (l s1:List UInt8) (d0 d1 d2:Int) (hS:∀ b,S b→b<w.heap.size) (h:AU w S v l) (hl:l.length=244) (hc:AC l 0 4=1) (hz:DZ (BF l 20 224)=true) (hx:(BJ (BF l 4 240)).extract 0 16=BJ s1) (h1:s1.length=16) (hv:Dm EX s1=([d0,d1,d2],0)) :
 Calls Tryz.prog 179 #[v] w fun e w'=>(∃ A c,e=.returned (.tuple #[.slice A 1 c,.int .i64 0])∧w'.ownsRow w.heap.size 153 3 (.slice A 1 c) 1 [.int .i64 d0,.int .i64 d1,.int .i64 d2])∧Below w.heap.size w w':=by
 have hget:=IC w S v l 0 4 hS h (.inr (.inr (.inl rfl))) (by omega) (by omega)
 rw [hc,if_neg (by omega)] at hget
 obtain ⟨A,c,rfl,hcc,hr⟩:=h
 obtain ⟨b,off,rfl,hb,-⟩:=BU hr (by omega)
 rw [hl] at hget
 have HG:Hid (Calls Tryz.prog 89 #[.slice (some ⟨b,off,none⟩) 244 c,.int .i64 0,.int .i64 4] w fun e w'=>e=.returned (.tuple #[.int .i64 1,.int .i64 0])∧w'=w):=hget
 have hz0:=Ph w S _ _ hS (LQ (a:=20) (n:=224) hr hcc (by omega)) (by rw [Ej (by omega)];decide)
 rw [hz] at hz0
 have HZ:=qh hz0
 have hcv:=TH (a:=4) (n:=240) hS hr hcc (by omega) w (Below.refl _ _)
 have hsz:(BJ (BF l 4 240)).size=240:=by rw [IB,Ej (by omega)]
 have YO:=qh (fun w'=>OE w' s1 d0 d1 d2 0 (by omega) hv)
 have HX:=qh hx
 have hc2:244≤c:=by omega
 rw [hl]
 clear hr hget hz0 hx hz hv hc hcc
 generalize BJ (BF l 4 240)=s0 at *
 have Yj:=qh hsz
 clear hsz
 go_enter Tryz.func179,Tryz.ntmps179
 go_upto_region 7 with (first
  | (go_at_call 89;(with_reducible refine HG.out.mono ?_);rintro e w2 ⟨rfl,hw⟩;rw [hw];clear hw w2)
  | (go_at_call 156;(with_reducible refine HZ.out.mono ?_);rintro e w2 ⟨rfl,hw⟩;rw [hw];clear hw w2))
 have hb6:=AL.new w #[.string s0] 9
 have FP:Below w.heap.size w (w.alloc (.cells #[.string s0] 9)):=(Below.refl _ _).alloc (Nat.le_refl _) _
 generalize w.alloc (.cells #[.string s0] 9)=w6 at *
 have iF:∀ (fn:Fn) (first cap:Array Value) (w:World),(Instr.makeFunc fn first cap).run Tryz.prog w=.ok (.func fn first cap) w:=fun _ _ _ _=>rfl
 have D8:=qh FP
 have MO:=qh (WW w6 _ s0 hb6 (by have:=Yj.out;omega))
 rw [HX.out] at MO
 have zz:=hb6.lt
 clear FP hb6 HG HZ
 go_wp2_with fail
 go_loopw [8,35] (fun vo vi wr=>(vi=.int .i64 0∧vo=.slice none 0 0∧wr=w6)∨(∃ A c,vi=.int .i64 1∧vo=.slice A 1 c∧Hid (wr.ownsRow w.heap.size 153 3 (.slice A 1 c) 1 [.int .i64 d0,.int .i64 d1,.int .i64 d2])∧Hid (Below w.heap.size w wr))) (fun _ vi _=>1-(intOf vi).toNat)
 case atStart=>exact .inl ⟨rfl,rfl,rfl⟩
 case round =>
  rcases hrel with ⟨rfl,rfl,rfl⟩|⟨A,c1,rfl,rfl,HO,HB⟩
  · go_upto_region 14 with (first
      | (go_at_call 200;(with_reducible refine MO.out.mono ?_);rintro e w2 ⟨rfl,hw2⟩;rw [hw2];clear hw2 w2)
      | (go_at_call 182;(with_reducible refine (YO.out _).mono ?_);rintro e w3 ⟨rfl,hB3⟩;have HB3:=qh hB3;clear hB3))
    have hb4:=AL.new w3 #[.int .i64 d0,.int .i64 d1,.int .i64 d2] 153
    have hB4:Below w3.heap.size w3 (w3.alloc (.cells #[.int .i64 d0,.int .i64 d1,.int .i64 d2] 153)):=(Below.refl _ _).alloc (Nat.le_refl _) _
    obtain ⟨g9,Dp⟩:∃ g,w3.heap.size=g:=⟨_,rfl⟩
    have Ie:Hid (Below w.heap.size w (w3.alloc (.cells #[.int .i64 d0,.int .i64 d1,.int .i64 d2] 153))):=by
     have h3:=HB3.out
     have hs:(wr.setCell ⟨w.heap.size,0,none⟩ (.string (s0.extract 16 s0.size))).heap.size=wr.heap.size:=by simp
     have h5:Below w.heap.size w (wr.setCell ⟨w.heap.size,0,none⟩ (.string (s0.extract 16 s0.size))):=D8.out.setCell (p:=⟨w.heap.size,0,none⟩) (Nat.le_refl _) _
     exact (h5.trans (h3.mono h5.size)).trans (hB4.mono (h5.trans (h3.mono h5.size)).size)
    rw [Dp] at hb4 ⊢
    generalize w3.alloc (.cells #[.int .i64 d0,.int .i64 d1,.int .i64 d2] 153)=w4 at *
    have x0:w4.cell? ⟨g9,0,none⟩=some (.int .i64 d0):=hb4.at 0 _ rfl
    have x1:w4.cell? ⟨g9,1,none⟩=some (.int .i64 d1):=hb4.at 1 _ rfl
    have x2:w4.cell? ⟨g9,2,none⟩=some (.int .i64 d2):=hb4.at 2 _ rfl
    clear hb4 hB4 Dp
    go_wp2_with (at_builtin;go_loud (refine Cx Tryz.underlying164 NQ rfl (by omega) (by omega) rfl _ _ rfl w.heap.size (.slice none 0 0) 0 [] rfl (World.ownsRow_nil _ _ _ _) (some ⟨w4.heap.size,0,none⟩) 1 1 [.int .i64 d0,.int .i64 d1,.int .i64 d2] rfl rfl ?_ (by intro u hu;simp at hu;rcases hu with rfl|rfl|rfl <;> rfl) (by omega) (by have:=Ie.out.size;simp;omega) (fun h=>by cases h) ?_);(intro dd hdd;obtain rfl:_=dd:=(by injection hdd);exact Cm w4 [.int .i64 d0,.int .i64 d1,.int .i64 d2] _);intro A8 c8 w8 CQ Du Eu;have IU:=qh CQ;have Hg:=qh (Dx Du);clear CQ Du Eu)
    go_roundw
    case rel=>exact .inr ⟨A8,c8,rfl,rfl,IU.out,by show Below _ _ _;exact Ie.out.grown Hg.out Ie.out.size (fun k hk=>by simp [Value.ownBlock] at hk)⟩
    case measure=>simp [intOf]
  · go_wp2_with fail
    go_ret2
    exact ⟨⟨A,c1,rfl,HO.out⟩,HB.out⟩
end
section
open Go.RowKit
theorem jW (w:World):(Instr.makeSlice 62 (.int .i64 1) (.int .i64 1)).run Tryz.prog w=.ok (.slice (some ⟨w.heap.size,0,none⟩) 1 1) (w.alloc (.cells #[.int .i64 0] 3)):=by
 have h:=run_make_row' (P:=Tryz.prog) 62 3 (.int .i64 0) 8 Tryz.underlying62 (by kernel_rfl) rfl .i64 .i64 1 (by omega) (by omega) w
 have hmz:(madeCells #[Value.int .i64 0] 1)=#[.int .i64 0]:=by kernel_rfl
 rw [hmz] at h
 exact h
theorem Z6 (w:World) {m:Int} (h:m=6∨m=9∨m=12∨m=18):Calls Tryz.prog 161 #[.int .i64 0,.int .i64 m] w fun e w'=>e=.returned (.int .i64 1)∧w'=w:=by
 rcases h with rfl|rfl|rfl|rfl <;> (go_enter Tryz.func161,Tryz.ntmps161;go_wp2;go_ret;exact ⟨rfl,rfl⟩)
theorem JV {t:Int} (h1:1≤t) (h5:t≤5):(((BH t true:Nat):Int)=6∨((BH t true:Nat):Int)=9∨((BH t true:Nat):Int)=12∨((BH t true:Nat):Int)=18)∧((BH t false:Nat):Int)=18:=by
 rcases NA (t:=t) (by omega) (by omega) with rfl|rfl|rfl|rfl|rfl <;> decide
set_option maxRecDepth 100000 in
theorem cK (w:World) (t:Int) (h1:1≤t) (h5:t≤5):Calls Tryz.prog 163 #[.int .i64 0,.int .i64 (BH t true:Nat)] w fun e w'=>(∃ g,e=.returned (.slice (some ⟨g,0,none⟩) 1 1)∧g<w'.heap.size∧w'.cell? ⟨g,0,none⟩=some (.int .i64 0))∧Below w.heap.size w w':=by
 have hmk:=jW w
 have qb:=qh (fun w=>Z6 w (JV h1 h5).1)
 have hm:=(JV h1 h5).1
 generalize ((BH t true:Nat):Int)=m at *
 have h6:6≤m:=by omega
 have h18:m≤18:=by omega
 clear h1 h5 hm
 go_enter Tryz.func163,Tryz.ntmps163
 go_upto_region 5 with (go_at_call 161;(with_reducible refine (qb.out _).mono ?_);rintro e w2 ⟨rfl,hw⟩;rw [hw];clear hw w2)
 have hbx:=AL.new w #[.int .i64 0] 3
 have hBx:Below w.heap.size w (w.alloc (.cells #[.int .i64 0] 3)):=(Below.refl _ _).alloc (Nat.le_refl _) _
 generalize w.alloc (.cells #[.int .i64 0] 3)=w1 at *
 obtain ⟨g,hg⟩:∃ q,w.heap.size=q:=⟨_,rfl⟩
 have Pq:Hid (w.heap.size≤g):=by show _≤_;omega
 have HB1:=qh hBx
 rw [hg] at hbx ⊢
 have DL:=qh hbx
 clear hbx hBx hg hmk
 go_wp2_with fail
 go_loopw [25] (fun vi wr=>∃ k:Nat,vi=.int .i64 k∧k≤1∧Hid (AL wr g #[.int .i64 0] 3)∧Hid (Below w.heap.size w wr)) (fun vi _=>1-(intOf vi).toNat)
 case atStart=>exact ⟨0,rfl,by omega,DL,HB1⟩
 case round =>
  obtain ⟨k,rfl,hk,J6,qc⟩:=hrel
  rcases (show k=0∨k=1 by omega) with hk0|hk1
  · obtain rfl:=hk0
    have x0:wr.cell? ⟨g,0,none⟩=some (.int .i64 0):=J6.out.at 0 _ rfl
    have f0:=J6.out.free 0
    have hlt:=J6.out.lt
    go_wp2_with fail
    have HB2:Hid (AL (wr.setCell ⟨g,0,none⟩ (.int .i64 0)) g #[.int .i64 0] 3):=J6.out.set 0 _
    have HL2:Hid (Below w.heap.size w (wr.setCell ⟨g,0,none⟩ (.int .i64 0))):=qc.out.trans ((Touch.BZ (R:=fun x=>x=g) (p:=⟨g,0,none⟩) rfl).below (fun x e=>by rw [e];exact Pq.out) qc.out.size)
    go_roundw
    case rel=>exact ⟨1,by go_num,by omega,HB2,HL2⟩
    case measure=>simp [intOf]
  · obtain rfl:=hk1
    go_wp2_with fail
    refine bodyPost_ret (v:=.slice (some ⟨g,0,none⟩) 1 1) (by simp [results,Tryz.results163,go_sem]) rfl ⟨⟨g,rfl,J6.out.lt,J6.out.at 0 _ rfl⟩,qc.out⟩
set_option maxRecDepth 100000 in
theorem Yk (w:World) (t:Int) (h1:1≤t) (h5:t≤5):Calls Tryz.prog 111 #[.int .i64 t,.int .i64 0] w fun e w'=>(∃ g,e=.returned (.slice (some ⟨g,0,none⟩) 1 1)∧g<w'.heap.size∧w'.cell? ⟨g,0,none⟩=some (.int .i64 1))∧Below w.heap.size w w':=by
 have qb:=qh (fun w=>Z6 w (JV h1 h5).1)
 have jX:=qh (fun w=>El w t true)
 have wZ:=qh (fun w=>El w t false)
 rw [(JV h1 h5).2] at wZ
 have hm:=(JV h1 h5).1
 generalize ((BH t true:Nat):Int)=m at *
 have h6:6≤m:=by omega
 have h18:m≤18:=by omega
 clear h1 h5 hm
 go_enter Tryz.func111,Tryz.ntmps111
 go_wp2_with (first
  | (go_at_call 53;(with_reducible refine (jX.out _).mono ?_);rintro e w2 ⟨rfl,hw⟩;rw [hw];clear hw w2)
  | (go_at_call 53;(with_reducible refine (wZ.out _).mono ?_);rintro e w2 ⟨rfl,hw⟩;rw [hw];clear hw w2)
  | (go_at_call 161;(with_reducible refine (qb.out _).mono ?_);rintro e w2 ⟨rfl,hw⟩;rw [hw];clear hw w2))
 have hbx:=AL.new w #[.int .i64 1] 3
 have hBx:Below w.heap.size w (w.alloc (.cells #[.int .i64 1] 3)):=(Below.refl _ _).alloc (Nat.le_refl _) _
 generalize w.alloc (.cells #[.int .i64 1] 3)=w1 at *
 obtain ⟨g,hg⟩:∃ q,w.heap.size=q:=⟨_,rfl⟩
 have HB1:=qh hBx
 rw [hg] at hbx ⊢
 have DL:=qh hbx
 have x0:w1.cell? ⟨g,0,none⟩=some (.int .i64 1):=hbx.at 0 _ rfl
 have HX0:=qh x0
 clear hbx hBx hg
 go_loopw [7] (fun vi wr=>vi=.slice (some ⟨g,0,none⟩) 1 1∧wr=w1) (fun vi _=>1)
 case atStart=>exact ⟨rfl,rfl⟩
 case round =>
  obtain ⟨rfl,hwr⟩:=hrel
  rw [hwr]
  clear hwr wr
  go_wp2_with fail
  refine bodyPost_ret (v:=.slice (some ⟨g,0,none⟩) 1 1) (by simp [results,Tryz.results111,go_sem]) rfl ⟨⟨g,rfl,DL.out.lt,HX0.out⟩,HB1.out⟩
set_option maxRecDepth 100000 in
theorem GV (w:World) (t:Int) (h1:1≤t) (h5:t≤5):Calls Tryz.prog 66 #[.int .i64 t,.int .i64 0] w fun e w'=>e=.returned (.int .i64 1)∧Below w.heap.size w w':=by
 have jY:=qh (Yk w t h1 h5)
 clear h1 h5
 go_enter Tryz.func66,Tryz.ntmps66
 go_wp2_with (go_at_call 111;(with_reducible refine jY.out.mono ?_);rintro e w2 ⟨⟨g,rfl,hlt,hc⟩,hB⟩;have HC:=qh hc;have HB:=qh hB;clear hlt hc hB)
 rename World=>w2
 go_loopw [5,12] (fun vs vi wr=>(∃ k:Nat,k≤1∧vi=.int .i64 k∧vs=.int .i64 k)∧wr=w2) (fun _ vi _=>1-(intOf vi).toNat)
 case atStart=>exact ⟨⟨0,by omega,rfl,rfl⟩,rfl⟩
 case round =>
  obtain ⟨⟨k,hk,rfl,rfl⟩,hwr⟩:=hrel
  rw [hwr]
  clear hwr wr
  have x0:=HC.out
  rcases (show k=0∨k=1 by omega) with hk0|hk1
  · obtain rfl:=hk0
    go_wp2_with fail
    go_roundw
    case rel=>exact ⟨⟨1,by omega,by go_num,by go_num⟩,by trivial⟩
    case measure=>simp [intOf]
  · obtain rfl:=hk1
    go_wp2_with fail
    refine bodyPost_ret (v:=.int .i64 1) (by simp [results,Tryz.results66,go_sem]) rfl ⟨rfl,HB.out⟩
end
end Go.Proofs.YthblbddmcdnllaaGreatDoor
