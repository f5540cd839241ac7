/- A part of the proof: WStat3, WStat4. -/
import Derived.Test.YthblbddmcdnllaaGreatDoorX25
import Derived.Laws.Tables
import Derived.Test.YthblbddmcdnllaaGreatDoorX48
import Derived.Test.YthblbddmcdnllaaGreatDoorX23
import Derived.Laws.Rows
import Derived.Test.YthblbddmcdnllaaGreatDoorY1
import Derived.Test.YthblbddmcdnllaaGreatDoorX33
set_option maxHeartbeats 6400000
set_option linter.unusedVariables false
set_option linter.unusedSimpArgs false
namespace Go.Proofs.YthblbddmcdnllaaGreatDoor
section
open Go.RowKit
attribute [local go_sem] Oper.semAt_some
theorem Xw (w:World):Calls Tryz.prog 26 #[.agg #[.int .i64 0,.int .i64 0,.int .i64 1,.int .i64 0,.slice none 0 0]] w fun e w'=>e=.returned (.tuple #[.int .i64 0,.int .i64 0,.int .i64 0])∧Below w.heap.size w w':=by
 have h:=U6 w _ D7 Gn (fun b hb=>hb) (MJ w) MK
 rw [show FN 0 (C9 Gn)=0 from by decide,show FN 1 (C9 Gn)=0 from by decide,show (C9 Gn).length=0 from by decide] at h
 exact h
section
variable {w:World} {S:Nat→Prop} {a:Nat} {bs:List UInt8} {fuel:Int}
set_option maxRecDepth 100000 in
theorem Sz (hS:∀ b,S b→b<w.heap.size) (h:Am w S a bs) (ok:ER bs fuel) :
 Calls Tryz.prog 18 #[.pointer (some ⟨a,0,none⟩),.int .i64 fuel] w fun e w'=>e=.returned (.tuple #[.agg #[.int .i64 0,.int .i64 0,.int .i64 1,.int .i64 0,.slice none 0 0],.nilIface])∧Below w.heap.size w w':=by
 have hr:=AL.new w #[.int .i64 0,.int .i64 0,.int .i64 0,.int .i64 0,.slice none 0 0] 32
 have hB1:Below w.heap.size w (w.alloc (.cells #[.int .i64 0,.int .i64 0,.int .i64 0,.int .i64 0,.slice none 0 0] 32)):=(Below.refl _ _).alloc (Nat.le_refl _) _
 have HL:=qh (nM (w:=w.alloc (.cells #[.int .i64 0,.int .i64 0,.int .i64 0,.int .i64 0,.slice none 0 0] 32)) (fun b hb=>Nat.lt_of_lt_of_le (hS b hb) hB1.size) (h.below hB1 hS) ok)
 unfold fB at HL
 clear h ok
 go_enter Tryz.func18,Tryz.ntmps18
 go_upto_region 1 with fail
 generalize w.alloc (.cells #[.int .i64 0,.int .i64 0,.int .i64 0,.int .i64 0,.slice none 0 0] 32)=w1 at *
 have HR:=qh hr
 have HB1:=qh hB1
 clear hr hB1
 go_upto_region 2 with (first
  | (go_at_call 42;(with_reducible refine HL.out.mono ?_);rintro e w2 ⟨⟨A,c,rfl⟩,hB⟩;have HB2:=qh hB;have hb3:=AL.new w2 fZ 102;have hB3:Below w2.heap.size w2 (w2.alloc (.cells fZ 102)):=(Below.refl _ _).alloc (Nat.le_refl _) _;unfold fZ at hb3 hB3;have HB3:=qh hb3;have IL:=qh hB3;clear hB hb3 hB3)
  | (refine wpList_store_row rfl 102 _ _ rfl w2.heap.size #[.int .i64 0,.int .i64 0,.int .i64 1,.int .i64 0,.int .i64 8,.int .i64 1,.int .i64 2,.int .i64 3,.int .i64 4,.int .i64 7,.int .i64 5,.int .i64 0,.int .i64 0,.int .i64 1,.int .i64 0,.slice none 0 0,.slice none 0 0,.slice A 8 c,.slice none 0 0] rfl rfl 102 _ HB3.out (by kernel_rfl) rfl (by simp [Value.oneCell']) ?_;have hx4:=setRow_heap _ w2.heap.size _ #[.int .i64 0,.int .i64 0,.int .i64 1,.int .i64 0,.int .i64 8,.int .i64 1,.int .i64 2,.int .i64 3,.int .i64 4,.int .i64 7,.int .i64 5,.int .i64 0,.int .i64 0,.int .i64 1,.int .i64 0,.slice none 0 0,.slice none 0 0,.slice A 8 c,.slice none 0 0] 102 _ HB3.out;have hB4:=below_setRow IL.out (Nat.le_refl w2.heap.size) #[.int .i64 0,.int .i64 0,.int .i64 1,.int .i64 0,.int .i64 8,.int .i64 1,.int .i64 2,.int .i64 3,.int .i64 4,.int .i64 7,.int .i64 5,.int .i64 0,.int .i64 0,.int .i64 1,.int .i64 0,.slice none 0 0,.slice none 0 0,.slice A 8 c,.slice none 0 0];generalize (w2.alloc (.cells #[.int .i64 0,.int .i64 0,.int .i64 0,.int .i64 0,.int .i64 0,.int .i64 0,.int .i64 0,.int .i64 0,.int .i64 0,.int .i64 0,.int .i64 0,.int .i64 0,.int .i64 0,.int .i64 0,.int .i64 0,.slice none 0 0,.slice none 0 0,.slice none 0 0,.slice none 0 0] 102)).setRow w2.heap.size #[.int .i64 0,.int .i64 0,.int .i64 1,.int .i64 0,.int .i64 8,.int .i64 1,.int .i64 2,.int .i64 3,.int .i64 4,.int .i64 7,.int .i64 5,.int .i64 0,.int .i64 0,.int .i64 1,.int .i64 0,.slice none 0 0,.slice none 0 0,.slice A 8 c,.slice none 0 0]=w4 at *;have Qr:Hid (AL w4 w2.heap.size #[.int .i64 0,.int .i64 0,.int .i64 1,.int .i64 0,.int .i64 8,.int .i64 1,.int .i64 2,.int .i64 3,.int .i64 4,.int .i64 7,.int .i64 5,.int .i64 0,.int .i64 0,.int .i64 1,.int .i64 0,.slice none 0 0,.slice none 0 0,.slice A 8 c,.slice none 0 0] 102):=hx4;have EQ:=qh hB4;clear hx4 hB4))
 have hr4:=(HR.out.below HB2.out HR.out.lt).below EQ.out (HR.out.below HB2.out HR.out.lt).lt
 have h02:=HB1.out.trans (HB2.out.mono HB1.out.size)
 have Jb:=qh (h02.trans (EQ.out.mono h02.size))
 have x11:w4.cell? ⟨w2.heap.size,11,none⟩=some (.int .i64 0):=Qr.out.at 11 _ rfl
 have x12:w4.cell? ⟨w2.heap.size,12,none⟩=some (.int .i64 0):=Qr.out.at 12 _ rfl
 have xy:w4.cell? ⟨w2.heap.size,13,none⟩=some (.int .i64 1):=Qr.out.at 13 _ rfl
 have x14:w4.cell? ⟨w2.heap.size,14,none⟩=some (.int .i64 0):=Qr.out.at 14 _ rfl
 have xz:w4.cell? ⟨w2.heap.size,15,none⟩=some (.slice none 0 0):=Qr.out.at 15 _ rfl
 have x18:w4.cell? ⟨w2.heap.size,18,none⟩=some (.slice none 0 0):=Qr.out.at 18 _ rfl
 have z0:w4.cell? ⟨w.heap.size,0,none⟩=some (.int .i64 0):=hr4.at 0 _ rfl
 have f0:=hr4.free 0
 have z1:w4.cell? ⟨w.heap.size,1,none⟩=some (.int .i64 0):=hr4.at 1 _ rfl
 have f1:=hr4.free 1
 have z2:w4.cell? ⟨w.heap.size,2,none⟩=some (.int .i64 0):=hr4.at 2 _ rfl
 have f2:=hr4.free 2
 have z3:w4.cell? ⟨w.heap.size,3,none⟩=some (.int .i64 0):=hr4.at 3 _ rfl
 have f3:=hr4.free 3
 have z4:w4.cell? ⟨w.heap.size,4,none⟩=some (.slice none 0 0):=hr4.at 4 _ rfl
 have f4:=hr4.free 4
 have HR4:=qh hr4
 clear hr4 h02 HB3 IL
 go_wp2_with fail
 have hr4:=HR4.out
 have Ey:AL (((((w4.setCell ⟨w.heap.size,0,none⟩ (.int .i64 0)).setCell ⟨w.heap.size,1,none⟩ (.int .i64 0)).setCell ⟨w.heap.size,2,none⟩ (.int .i64 1)).setCell ⟨w.heap.size,3,none⟩ (.int .i64 0)).setCell ⟨w.heap.size,4,none⟩ (.slice none 0 0)) w.heap.size #[.int .i64 0,.int .i64 0,.int .i64 1,.int .i64 0,.slice none 0 0] 32:=(((((hr4.set 0 (.int .i64 0)).set 1 (.int .i64 0)).set 2 (.int .i64 1)).set 3 (.int .i64 0)).set 4 (.slice none 0 0))
 have Kr:Below w.heap.size w (((((w4.setCell ⟨w.heap.size,0,none⟩ (.int .i64 0)).setCell ⟨w.heap.size,1,none⟩ (.int .i64 0)).setCell ⟨w.heap.size,2,none⟩ (.int .i64 1)).setCell ⟨w.heap.size,3,none⟩ (.int .i64 0)).setCell ⟨w.heap.size,4,none⟩ (.slice none 0 0)):=(((((Jb.out.setCell (p:=⟨w.heap.size,0,none⟩) (Nat.le_refl _) (.int .i64 0)).setCell (p:=⟨w.heap.size,1,none⟩) (Nat.le_refl _) (.int .i64 0)).setCell (p:=⟨w.heap.size,2,none⟩) (Nat.le_refl _) (.int .i64 1)).setCell (p:=⟨w.heap.size,3,none⟩) (Nat.le_refl _) (.int .i64 0)).setCell (p:=⟨w.heap.size,4,none⟩) (Nat.le_refl _) (.slice none 0 0))
 generalize (((((w4.setCell ⟨w.heap.size,0,none⟩ (.int .i64 0)).setCell ⟨w.heap.size,1,none⟩ (.int .i64 0)).setCell ⟨w.heap.size,2,none⟩ (.int .i64 1)).setCell ⟨w.heap.size,3,none⟩ (.int .i64 0)).setCell ⟨w.heap.size,4,none⟩ (.slice none 0 0))=w9 at *
 exact bodyPost_ret (Ip Tryz.results18 rfl rfl Ey) rfl ⟨rfl,Kr⟩
end
end
section
open Go.RowKit
attribute [local go_sem] Oper.semAt_some GX
theorem Kv (u l r:Nat):(Gb u l r).all (·.oneCell')=true:=by simp [Gb,Value.oneCell']
theorem Jp {fn:Func} {k1 k2 g:Nat} {tmps:Array Value} {w:World} {cs:Array Value} {T:TypeId} {d:Array Field} {b:Value} (hres:fn.results=#[.cell k1 T,.tmp k2]) (h1:tmps[k1]? = some (.pointer (some ⟨g,0,none⟩))) (h2:tmps[k2]? = some b) (hb:AL w g cs T) (hu:Tryz.prog.underlying T=some (.struct d)) (hi:(Tryz.prog.info? T).map (·.size)=some cs.size):(results fn tmps).run Tryz.prog w=.ok (.tuple #[.agg cs,b]) w:=by
 have hl:=run_loadVar_row (P:=Tryz.prog) w g T T cs (0,0) _ hb hu rfl hi
 have ha:(asAddr (.pointer (some ⟨g,0,none⟩))).run Tryz.prog w=.ok ⟨g,0,none⟩ w:=rfl
 simp [results,hres,Sem.run_bind,h1,h2,ha,hl]
section
variable {w:World} {S:Nat→Prop} {a:Nat} {bs:List UInt8} {fuel:Int}
set_option maxRecDepth 100000 in
theorem nN (hS:∀ b,S b→b<w.heap.size) (h:Am w S a bs) (ok:ER bs fuel) (oks:Lj bs) :
 Calls Tryz.prog 8 #[.pointer (some ⟨a,0,none⟩),.int .i64 fuel] w fun e w'=>e=.returned (.tuple #[.agg (Gb 8 5 69),.nilIface])∧Below w.heap.size w w':=by
 obtain ⟨kr,kf,kB,kz⟩:=AL.two w #[.pointer (some ⟨a,0,none⟩)] #[.int .i64 0,.int .i64 0,.int .i64 0,.int .i64 0,.int .i64 0,.int .i64 0,.int .i64 0,.int .i64 0,.int .i64 0,.int .i64 0,.int .i64 0,.int .i64 0,.int .i64 0] 25 34
 have JC:=qh (fun (w':World) (hB:Below w.heap.size w w')=>And.intro (fun b (hb:S b)=>Nat.lt_of_lt_of_le (hS b hb) hB.size) (h.below hB hS))
 have OK:=qh ok
 have OKS:=qh oks
 have HS:=qh hS
 clear h ok oks hS
 go_enter Tryz.func8,Tryz.ntmps8
 go_upto_region 1 with fail
 generalize (w.alloc (.cells #[.pointer (some ⟨a,0,none⟩)] 25)).alloc (.cells #[.int .i64 0,.int .i64 0,.int .i64 0,.int .i64 0,.int .i64 0,.int .i64 0,.int .i64 0,.int .i64 0,.int .i64 0,.int .i64 0,.int .i64 0,.int .i64 0,.int .i64 0] 34)=w1 at *
 have jC:Hid (AL w1 w.heap.size #[.pointer (some ⟨a,0,none⟩)] 25):=kr
 have HR1:Hid (AL w1 (w.heap.size+1) #[.int .i64 0,.int .i64 0,.int .i64 0,.int .i64 0,.int .i64 0,.int .i64 0,.int .i64 0,.int .i64 0,.int .i64 0,.int .i64 0,.int .i64 0,.int .i64 0,.int .i64 0] 34):=kf
 have HB1:=qh kB
 have m1:w1.cell? ⟨w.heap.size,0,none⟩=some (.pointer (some ⟨a,0,none⟩)):=kr.at 0 _ rfl
 clear kr kf kB kz
 have HQ:=qh (Sz (fuel:=fuel) (JC.out w1 HB1.out).1 (JC.out w1 HB1.out).2 OK.out)
 go_upto_region 4 with (go_at_call 18;(with_reducible refine HQ.out.mono ?_);rintro e w2 ⟨rfl,hB⟩;have HK:=qh hB;clear hB m1)
 have hb3:=AL.new w2 #[.int .i64 0,.int .i64 0,.int .i64 1,.int .i64 0,.slice none 0 0] 32
 have hK3:=HK.out.alloc HK.out.size (.cells #[.int .i64 0,.int .i64 0,.int .i64 1,.int .i64 0,.slice none 0 0] 32)
 have hl1:=HR1.out.lt
 have hl2:=HK.out.size
 obtain ⟨gp,WQ⟩:∃ q,w2.heap.size=q:=⟨_,rfl⟩
 rw [WQ] at hb3 hl2 ⊢
 generalize w2.alloc (.cells #[.int .i64 0,.int .i64 0,.int .i64 1,.int .i64 0,.slice none 0 0] 32)=w3 at *
 have ow:=qh hb3
 have HB3:=qh (HB1.out.trans (hK3.mono HB1.out.size))
 have oz:=qh (jC.out.below hK3 jC.out.lt)
 have HR3:=qh (HR1.out.below hK3 HR1.out.lt)
 have oK:Hid (w.heap.size+1<gp):=Nat.lt_of_lt_of_le hl1 hl2
 have m3:w3.cell? ⟨w.heap.size,0,none⟩=some (.pointer (some ⟨a,0,none⟩)):=oz.out.at 0 _ rfl
 have vU:=qh (Xt (JC.out w3 HB3.out).1 (JC.out w3 HB3.out).2 OK.out.len OK.out.vN)
 unfold JX at vU
 clear hb3 hK3 hl1 hl2 WQ HQ HK jC HR1 HB1 w1
 go_upto_region 7 with (go_at_call 19;(with_reducible refine vU.out.mono ?_);rintro e w4 ⟨rfl,hB⟩;have HK:=qh hB;clear hB m3)
 have hb5:=AL.new w4 #[.int .i64 0,.int .i64 0,.int .i64 1,.int .i64 0,.int .i64 8,.int .i64 1,.int .i64 2,.int .i64 3,.int .i64 4,.int .i64 7,.int .i64 5] 59
 have eH:=HK.out.alloc HK.out.size (.cells #[.int .i64 0,.int .i64 0,.int .i64 1,.int .i64 0,.int .i64 8,.int .i64 1,.int .i64 2,.int .i64 3,.int .i64 4,.int .i64 7,.int .i64 5] 59)
 have hl1:=ow.out.lt
 have hl2:=HK.out.size
 obtain ⟨gu,hgu⟩:∃ q,w4.heap.size=q:=⟨_,rfl⟩
 rw [hgu] at hb5 hl2 ⊢
 generalize w4.alloc (.cells #[.int .i64 0,.int .i64 0,.int .i64 1,.int .i64 0,.int .i64 8,.int .i64 1,.int .i64 2,.int .i64 3,.int .i64 4,.int .i64 7,.int .i64 5] 59)=w5 at *
 have o6:=qh hb5
 have DT:=qh (HB3.out.trans (eH.mono HB3.out.size))
 have o7:=qh (oz.out.below eH oz.out.lt)
 have RQ:=qh (HR3.out.below eH HR3.out.lt)
 have Tc:=qh (ow.out.below eH ow.out.lt)
 have HGU:Hid (gp<gu):=Nat.lt_of_lt_of_le hl1 hl2
 have m5:w5.cell? ⟨w.heap.size,0,none⟩=some (.pointer (some ⟨a,0,none⟩)):=o7.out.at 0 _ rfl
 have vV:=qh (Wq w5 S a bs (JC.out w5 DT.out).1 (JC.out w5 DT.out).2 OK.out.len OK.out.img)
 unfold JX at vV
 clear hb5 eH hl1 hl2 hgu vU HK oz HR3 ow HB3 w3
 go_upto_region 10 with (first
  | (refine wpList_load_row rfl 59 _ rfl gu rfl 59 #[.int .i64 0,.int .i64 0,.int .i64 1,.int .i64 0,.int .i64 8,.int .i64 1,.int .i64 2,.int .i64 3,.int .i64 4,.int .i64 7,.int .i64 5] (0,0) _ o6.out Tryz.underlying59 rfl (by kernel_rfl) ?_)
  | (go_at_call 20;(with_reducible refine vV.out.mono ?_);rintro e w6 ⟨⟨v,rfl,hv⟩,hB⟩;have HV:=qh hv;have HK:=qh hB;clear hB m5 hv))
 obtain ⟨A,c,hv,-,hr⟩:=HV.out
 obtain ⟨gc,oc,hA,hgc,hcc⟩:=Be hr (by decide)
 rw [show (Dr 6).length=8 from rfl] at hv hcc
 rw [hA] at hv
 rw [hv]
 have Zq:Hid (w.heap.size≤w5.heap.size∧w5.heap.size≤gc∧gc<w6.heap.size):=⟨DT.out.size,hgc.1,hgc.2⟩
 have o8:Hid (∀ i,i<8→w6.cell? ⟨gc,oc+i,none⟩=some (.int .i64 1)):=fun i hi=>by
  have h1:=hcc i hi
  rw [show nth 0 (Dr 6) i=1 from by rcases (show i=0∨i=1∨i=2∨i=3∨i=4∨i=5∨i=6∨i=7 by omega) with rfl|rfl|rfl|rfl|rfl|rfl|rfl|rfl <;> rfl] at h1
  exact h1
 have iV:=HK.out
 have D8:=qh (DT.out.trans (iV.mono DT.out.size))
 have iW:=qh (o7.out.below iV o7.out.lt)
 have Yc:=qh (RQ.out.below iV RQ.out.lt)
 have Oy:=qh (Tc.out.below iV Tc.out.lt)
 have vW:=qh (o6.out.below iV o6.out.lt)
 have Ta:Hid (∀ w',Below w6.heap.size w6 w'→w'.cell? ⟨gu,4,none⟩=some (.int .i64 8)∧w'.cell? ⟨gp,0,none⟩=some (.int .i64 0)∧w'.cell? ⟨gp,1,none⟩=some (.int .i64 0)∧w'.cell? ⟨gp,2,none⟩=some (.int .i64 1)∧w'.cell? ⟨gp,3,none⟩=some (.int .i64 0)∧w'.cell? ⟨gp,4,none⟩=some (.slice none 0 0)):=fun w' hB=>⟨(vW.out.below hB vW.out.lt).at 4 _ rfl,(Oy.out.below hB Oy.out.lt).at 0 _ rfl,(Oy.out.below hB Oy.out.lt).at 1 _ rfl,(Oy.out.below hB Oy.out.lt).at 2 _ rfl,(Oy.out.below hB Oy.out.lt).at 3 _ rfl,(Oy.out.below hB Oy.out.lt).at 4 _ rfl⟩
 have eu:=qh (fun w'=>XK w')
 clear hv hr hA hgc hcc iV HV HK vV vW o6 DT o7 RQ Tc HGU
 refine AJ (T:=fun _=>false) (S:=fun w'=>Below w6.heap.size w6 w') (by kernel_rfl) (Below.refl w6.heap.size w6).drew (fun hHeld=>?_)
 obtain ⟨BN,hw0⟩:∃ x,w6.drew=x:=⟨_,rfl⟩
 rw [hw0] at hHeld ⊢
 have AF:Below w6.heap.size w6 BN:=hHeld
 clear hHeld hw0
 refine qs 0 42 AF ?_
 refine qf 1 43 rfl rfl AF (by intro w2' hSw;have x:=(Ta.out _ hSw).1;go_simp;(try with_reducible rfl)) ?_
 refine qs 2 44 AF ?_
 refine qf 3 45 rfl rfl AF (by intro w2' hSw;have x:=(Ta.out _ hSw).2.2.2.2.2;go_simp;(try with_reducible rfl)) ?_
 refine qs 4 46 AF ?_
 refine qf 5 47 rfl rfl AF (by intro w2' hSw;obtain ⟨-,x0,x1,x2,x3,x4⟩:=Ta.out _ hSw;go_simp;(try with_reducible rfl)) ?_
 refine qs 7 49 AF ?_
 refine qf 8 50 rfl rfl AF (by intro w2' hSw;have x:=(Ta.out _ hSw).2.2.2.2.1;go_simp;(try with_reducible rfl)) ?_
 refine FH 6 10 (oi:=_) (oj:=_) (by kernel_rfl) rfl rfl (fun K hK=>?_) (fun K hK=>?_)
 · skip
   go_simp
   refine (eu.out BN).mono ?_
   rintro e BP ⟨rfl,CB⟩
   have AF:=AF.trans (CB.mono AF.size)
   clear CB
   refine hK.out _ _ (fun _=>AF) (fun Cq=>?_)
   clear hK K Cq
   (try simp only [Act.put,qS,qZ,qU])
   refine qs 9 51 AF ?_
   refine qo 10 fun K hK=>?_
   go_simp
   obtain ⟨Cz,hwn⟩:∃ wx,BP.alloc (.cells #[.int .i64 0,.int .i64 0,.int .i64 0,.int .i64 0,.int .i64 0,.int .i64 0,.int .i64 0,.int .i64 0,.int .i64 0,.int .i64 0,.int .i64 0,.int .i64 0,.int .i64 0] 34)=wx:=⟨_,rfl⟩
   have CB:Below BP.heap.size BP Cz:=by rw [← hwn];exact (Below.refl _ _).alloc (Nat.le_refl _) _
   have b10:Cz.heap[BP.heap.size]? = some (.cells #[.int .i64 0,.int .i64 0,.int .i64 0,.int .i64 0,.int .i64 0,.int .i64 0,.int .i64 0,.int .i64 0,.int .i64 0,.int .i64 0,.int .i64 0,.int .i64 0,.int .i64 0] 34):=by rw [← hwn];exact heap_alloc_new BP _
   have Jq:=AF.size
   have vX:BP.heap.size<Cz.heap.size:=by rw [← hwn];simp
   have AF:=AF.trans (CB.mono AF.size)
   rw [hwn]
   clear hwn CB
   refine hK.out _ _ (fun _=>AF) (fun Cq=>?_)
   clear hK K Cq
   (try simp only [Act.put,qS,qZ,qU])
   refine qo 11 fun K hK=>?_
   rw [if_pos (by rfl)]
   refine wp_store_row 34 _ _ rfl BP.heap.size (Gb 0 0 0) rfl rfl 34 _ b10 (by kernel_rfl) rfl (Kv 0 0 0) ?_
   obtain ⟨Ka,hwn⟩:∃ x,Cz.setRow BP.heap.size (Gb 0 0 0)=x:=⟨_,rfl⟩
   have hD:AL Ka BP.heap.size (Gb 0 0 0) 34:=by rw [← hwn];exact setRow_heap _ BP.heap.size _ (Gb 0 0 0) 34 _ b10
   have AF:=below_setRow AF Jq (Gb 0 0 0)
   rw [hwn] at AF ⊢
   clear hwn b10
   refine hK.out _ _ (fun _=>AF) (fun Cq=>?_)
   clear hK K Cq
   (try simp only [Act.put,qS,qZ,qU])
   refine qd ?_
   obtain ⟨gs,hgs⟩:∃ q,BP.heap.size=q:=⟨_,rfl⟩
   rw [hgs] at hD Jq ⊢
   obtain ⟨w7,hw7⟩:∃ q,Ka=q:=⟨_,rfl⟩
   rw [hw7] at hD AF ⊢
   have HD:=qh hD
   have Kg:=qh AF
   have Oz:Hid (w6.heap.size≤gs):=Jq
   clear hD AF Jq hgs hw7
   go_upto_region 11 with fail
   have hz:=JC.out w7 (D8.out.trans (Kg.out.mono D8.out.size))
   have hlm:=iW.out.lt
   have hlr:=Yc.out.lt
   have hlp:=Oy.out.lt
   have nO:=qh (aF (w:=w7) (S:=S) (a:=a) (bs:=bs) (gs:=gs) (gm:=w.heap.size) gc oc c hz.1 (fun b hb=>by have h1:=HS.out b hb;have h2:=D8.out.size;have h3:=Oz.out;omega) hz.2 OK.out.len OKS.out HD.out (iW.out.below Kg.out hlm) (by have h3:=Oz.out;omega) (by have h1:=Zq.out;have h2:=Kg.out.size;have h3:=Oz.out;omega) (fun i hi=>AY Kg.out Zq.out.2.2 (o8.out i hi)))
   have SI:=qh (Oy.out.below Kg.out hlp)
   have WG:=qh (Yc.out.below Kg.out hlr)
   have Es:=qh (D8.out.trans (Kg.out.mono D8.out.size))
   have EP:Hid (gp≠gs∧w.heap.size+1≠gs∧w.heap.size≤gs):=⟨by have:=Oz.out;omega,by have:=Oz.out;omega,by have:=Oz.out;omega⟩
   clear hz hlm hlr hlp o8 Zq Ta eu Kg HD iW Yc Oy D8 Oz JC OK OKS HS
   go_upto_region 12 with (go_at_call 22;(with_reducible refine nO.out.mono ?_);rintro e w8 ⟨rfl,hb,hT⟩;have Vj:=qh hb;have Js:=qh hT;clear hb hT)
   have U5:Hid (AL w8 gp #[.int .i64 0,.int .i64 0,.int .i64 1,.int .i64 0,.slice none 0 0] 32):=(Js.out.block SI.out.lt EP.out.1).trans SI.out
   have Rt:Hid (AL w8 (w.heap.size+1) #[.int .i64 0,.int .i64 0,.int .i64 0,.int .i64 0,.int .i64 0,.int .i64 0,.int .i64 0,.int .i64 0,.int .i64 0,.int .i64 0,.int .i64 0,.int .i64 0,.int .i64 0] 34):=(Js.out.block WG.out.lt EP.out.2.1).trans WG.out
   have Gf:=qh (Es.out.trans (Js.out.below (fun y e=>by rw [e];exact EP.out.2.2) Es.out.size))
   have p4:w8.cell? ⟨gp,4,none⟩=some (.slice none 0 0):=U5.out.at 4 _ rfl
   clear nO SI WG Es Js
   go_wp2_with fail
   refine wp_loop_rounds 1 ?_
   rw [rounds_succ]
   go_upto_region 18 with (first
    | (refine wpList_load_row rfl 32 _ rfl gp rfl 32 #[.int .i64 0,.int .i64 0,.int .i64 1,.int .i64 0,.slice none 0 0] (0,0) _ U5.out Tryz.underlying32 rfl (by kernel_rfl) ?_)
    | (go_at_call 26;(with_reducible refine (Xw w8).mono ?_);rintro e w9 ⟨rfl,hB⟩;have Kq:=Vj.out.below hB Vj.out.lt;have c11:w9.cell? ⟨gs,11,none⟩=some (.int .i64 0):=Kq.at 11 _ rfl;have c12:w9.cell? ⟨gs,12,none⟩=some (.int .i64 0):=Kq.at 12 _ rfl;have f11:=Kq.free 11;have f12:=Kq.free 12;have Jb:=qh hB;have aU:=qh Kq;clear hB Kq p4))
   have XP:Hid (AL ((w9.setCell ⟨gs,11,none⟩ (.int .i64 0)).setCell ⟨gs,12,none⟩ (.int .i64 0)) gs (Gb 8 5 69) 34):=(aU.out.set 11 (.int .i64 0)).set 12 (.int .i64 0)
   have Xx:Hid (AL ((w9.setCell ⟨gs,11,none⟩ (.int .i64 0)).setCell ⟨gs,12,none⟩ (.int .i64 0)) (w.heap.size+1) #[.int .i64 0,.int .i64 0,.int .i64 0,.int .i64 0,.int .i64 0,.int .i64 0,.int .i64 0,.int .i64 0,.int .i64 0,.int .i64 0,.int .i64 0,.int .i64 0,.int .i64 0] 34):=((Rt.out.below Jb.out Rt.out.lt).far (fun e=>EP.out.2.1 e.symm) 11 (.int .i64 0)).far (fun e=>EP.out.2.1 e.symm) 12 (.int .i64 0)
   have Hw:Hid (Below w.heap.size w ((w9.setCell ⟨gs,11,none⟩ (.int .i64 0)).setCell ⟨gs,12,none⟩ (.int .i64 0))):=((Gf.out.trans (Jb.out.mono Gf.out.size)).setCell (p:=⟨gs,11,none⟩) EP.out.2.2 (.int .i64 0)).setCell (p:=⟨gs,12,none⟩) EP.out.2.2 (.int .i64 0)
   clear c11 c12 f11 f12 aU Jb Vj U5 Rt Gf
   generalize ((w9.setCell ⟨gs,11,none⟩ (.int .i64 0)).setCell ⟨gs,12,none⟩ (.int .i64 0))=D9 at *
   go_wp2_with (first
    | (refine wpList_store_row rfl 34 _ _ rfl (w.heap.size+1) (Gb 8 5 69) rfl rfl 34 _ Xx.out (by kernel_rfl) rfl (Kv 8 5 69) ?_)
    | (refine wpList_load_row rfl 34 _ rfl gs rfl 34 (Gb 8 5 69) (0,0) _ XP.out Tryz.underlying34 rfl (by kernel_rfl) ?_))
   exact bodyPost_ret (Jp Tryz.results8 rfl rfl (setRow_heap _ _ _ (Gb 8 5 69) _ _ Xx.out) Tryz.underlying34 (by kernel_rfl)) rfl ⟨rfl,below_setRow Hw.out (Nat.le_add_right _ _) _⟩
 · skip
   go_simp
   obtain ⟨Ev,hwn⟩:∃ wx,BN.alloc (.cells #[.int .i64 0,.int .i64 0,.int .i64 0,.int .i64 0,.int .i64 0,.int .i64 0,.int .i64 0,.int .i64 0,.int .i64 0,.int .i64 0,.int .i64 0,.int .i64 0,.int .i64 0] 34)=wx:=⟨_,rfl⟩
   have CB:Below BN.heap.size BN Ev:=by rw [← hwn];exact (Below.refl _ _).alloc (Nat.le_refl _) _
   have b10:Ev.heap[BN.heap.size]? = some (.cells #[.int .i64 0,.int .i64 0,.int .i64 0,.int .i64 0,.int .i64 0,.int .i64 0,.int .i64 0,.int .i64 0,.int .i64 0,.int .i64 0,.int .i64 0,.int .i64 0,.int .i64 0] 34):=by rw [← hwn];exact heap_alloc_new BN _
   have Jq:=AF.size
   have vX:BN.heap.size<Ev.heap.size:=by rw [← hwn];simp
   have AF:=AF.trans (CB.mono AF.size)
   rw [hwn]
   clear hwn CB
   refine hK.out _ _ (fun _=>AF) (fun Cq=>?_)
   clear hK K Cq
   (try simp only [Act.put,qS,qZ,qU])
   refine qo 6 fun K hK=>?_
   go_simp
   refine (eu.out Ev).mono ?_
   rintro e Kc ⟨rfl,CB⟩
   have b10:=Jt b10 CB
   have AF:=AF.trans (CB.mono AF.size)
   clear CB
   refine hK.out _ _ (fun _=>AF) (fun Cq=>?_)
   clear hK K Cq
   (try simp only [Act.put,qS,qZ,qU])
   refine qs 9 51 AF ?_
   refine qo 11 fun K hK=>?_
   rw [if_pos (by rfl)]
   refine wp_store_row 34 _ _ rfl BN.heap.size (Gb 0 0 0) rfl rfl 34 _ b10 (by kernel_rfl) rfl (Kv 0 0 0) ?_
   obtain ⟨RX,hwn⟩:∃ x,Kc.setRow BN.heap.size (Gb 0 0 0)=x:=⟨_,rfl⟩
   have hD:AL RX BN.heap.size (Gb 0 0 0) 34:=by rw [← hwn];exact setRow_heap _ BN.heap.size _ (Gb 0 0 0) 34 _ b10
   have AF:=below_setRow AF Jq (Gb 0 0 0)
   rw [hwn] at AF ⊢
   clear hwn b10
   refine hK.out _ _ (fun _=>AF) (fun Cq=>?_)
   clear hK K Cq
   (try simp only [Act.put,qS,qZ,qU])
   refine qd ?_
   obtain ⟨gs,hgs⟩:∃ q,BN.heap.size=q:=⟨_,rfl⟩
   rw [hgs] at hD Jq ⊢
   obtain ⟨w7,hw7⟩:∃ q,RX=q:=⟨_,rfl⟩
   rw [hw7] at hD AF ⊢
   have HD:=qh hD
   have Kg:=qh AF
   have Oz:Hid (w6.heap.size≤gs):=Jq
   clear hD AF Jq hgs hw7
   go_upto_region 11 with fail
   have hz:=JC.out w7 (D8.out.trans (Kg.out.mono D8.out.size))
   have hlm:=iW.out.lt
   have hlr:=Yc.out.lt
   have hlp:=Oy.out.lt
   have nO:=qh (aF (w:=w7) (S:=S) (a:=a) (bs:=bs) (gs:=gs) (gm:=w.heap.size) gc oc c hz.1 (fun b hb=>by have h1:=HS.out b hb;have h2:=D8.out.size;have h3:=Oz.out;omega) hz.2 OK.out.len OKS.out HD.out (iW.out.below Kg.out hlm) (by have h3:=Oz.out;omega) (by have h1:=Zq.out;have h2:=Kg.out.size;have h3:=Oz.out;omega) (fun i hi=>AY Kg.out Zq.out.2.2 (o8.out i hi)))
   have SI:=qh (Oy.out.below Kg.out hlp)
   have WG:=qh (Yc.out.below Kg.out hlr)
   have Es:=qh (D8.out.trans (Kg.out.mono D8.out.size))
   have EP:Hid (gp≠gs∧w.heap.size+1≠gs∧w.heap.size≤gs):=⟨by have:=Oz.out;omega,by have:=Oz.out;omega,by have:=Oz.out;omega⟩
   clear hz hlm hlr hlp o8 Zq Ta eu Kg HD iW Yc Oy D8 Oz JC OK OKS HS
   go_upto_region 12 with (go_at_call 22;(with_reducible refine nO.out.mono ?_);rintro e w8 ⟨rfl,hb,hT⟩;have Vj:=qh hb;have Js:=qh hT;clear hb hT)
   have U5:Hid (AL w8 gp #[.int .i64 0,.int .i64 0,.int .i64 1,.int .i64 0,.slice none 0 0] 32):=(Js.out.block SI.out.lt EP.out.1).trans SI.out
   have Rt:Hid (AL w8 (w.heap.size+1) #[.int .i64 0,.int .i64 0,.int .i64 0,.int .i64 0,.int .i64 0,.int .i64 0,.int .i64 0,.int .i64 0,.int .i64 0,.int .i64 0,.int .i64 0,.int .i64 0,.int .i64 0] 34):=(Js.out.block WG.out.lt EP.out.2.1).trans WG.out
   have Gf:=qh (Es.out.trans (Js.out.below (fun y e=>by rw [e];exact EP.out.2.2) Es.out.size))
   have p4:w8.cell? ⟨gp,4,none⟩=some (.slice none 0 0):=U5.out.at 4 _ rfl
   clear nO SI WG Es Js
   go_wp2_with fail
   refine wp_loop_rounds 1 ?_
   rw [rounds_succ]
   go_upto_region 18 with (first
    | (refine wpList_load_row rfl 32 _ rfl gp rfl 32 #[.int .i64 0,.int .i64 0,.int .i64 1,.int .i64 0,.slice none 0 0] (0,0) _ U5.out Tryz.underlying32 rfl (by kernel_rfl) ?_)
    | (go_at_call 26;(with_reducible refine (Xw w8).mono ?_);rintro e w9 ⟨rfl,hB⟩;have Kq:=Vj.out.below hB Vj.out.lt;have c11:w9.cell? ⟨gs,11,none⟩=some (.int .i64 0):=Kq.at 11 _ rfl;have c12:w9.cell? ⟨gs,12,none⟩=some (.int .i64 0):=Kq.at 12 _ rfl;have f11:=Kq.free 11;have f12:=Kq.free 12;have Jb:=qh hB;have aU:=qh Kq;clear hB Kq p4))
   have XP:Hid (AL ((w9.setCell ⟨gs,11,none⟩ (.int .i64 0)).setCell ⟨gs,12,none⟩ (.int .i64 0)) gs (Gb 8 5 69) 34):=(aU.out.set 11 (.int .i64 0)).set 12 (.int .i64 0)
   have Xx:Hid (AL ((w9.setCell ⟨gs,11,none⟩ (.int .i64 0)).setCell ⟨gs,12,none⟩ (.int .i64 0)) (w.heap.size+1) #[.int .i64 0,.int .i64 0,.int .i64 0,.int .i64 0,.int .i64 0,.int .i64 0,.int .i64 0,.int .i64 0,.int .i64 0,.int .i64 0,.int .i64 0,.int .i64 0,.int .i64 0] 34):=((Rt.out.below Jb.out Rt.out.lt).far (fun e=>EP.out.2.1 e.symm) 11 (.int .i64 0)).far (fun e=>EP.out.2.1 e.symm) 12 (.int .i64 0)
   have Hw:Hid (Below w.heap.size w ((w9.setCell ⟨gs,11,none⟩ (.int .i64 0)).setCell ⟨gs,12,none⟩ (.int .i64 0))):=((Gf.out.trans (Jb.out.mono Gf.out.size)).setCell (p:=⟨gs,11,none⟩) EP.out.2.2 (.int .i64 0)).setCell (p:=⟨gs,12,none⟩) EP.out.2.2 (.int .i64 0)
   clear c11 c12 f11 f12 aU Jb Vj U5 Rt Gf
   generalize ((w9.setCell ⟨gs,11,none⟩ (.int .i64 0)).setCell ⟨gs,12,none⟩ (.int .i64 0))=D9 at *
   go_wp2_with (first
    | (refine wpList_store_row rfl 34 _ _ rfl (w.heap.size+1) (Gb 8 5 69) rfl rfl 34 _ Xx.out (by kernel_rfl) rfl (Kv 8 5 69) ?_)
    | (refine wpList_load_row rfl 34 _ rfl gs rfl 34 (Gb 8 5 69) (0,0) _ XP.out Tryz.underlying34 rfl (by kernel_rfl) ?_))
   exact bodyPost_ret (Jp Tryz.results8 rfl rfl (setRow_heap _ _ _ (Gb 8 5 69) _ _ Xx.out) Tryz.underlying34 (by kernel_rfl)) rfl ⟨rfl,below_setRow Hw.out (Nat.le_add_right _ _) _⟩
end
end
end Go.Proofs.YthblbddmcdnllaaGreatDoor
