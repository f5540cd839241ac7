/- A part of the proof: WAudit2, WAudit3, WSplit0. -/
import Derived.Test.YthblbddmcdnllaaGreatDoorX34
import Derived.Laws.IdiomRangeMap
import Derived.Carry
import Derived.Test.YthblbddmcdnllaaGreatDoorX35
import Derived.Test.YthblbddmcdnllaaGreatDoorY1
set_option maxHeartbeats 6400000
set_option linter.unusedVariables false
set_option linter.unusedSimpArgs false
namespace Go.Proofs.YthblbddmcdnllaaGreatDoor
section
open Go.RowKit
attribute [local go_sem] Oper.semAt_some
theorem aS {P:Program} (w:World) (ty:TypeId) (bm since c0 clock:Nat) (hb:w.heap[bm]? = some (.map #[] clock)) (hsc:since≤c0) :
 (Instr.next (.pointer (some ⟨w.heap.size,0,none⟩)) false ty).run P (w.alloc (.mapIter (some bm) since #[] c0))=.ok (.tuple #[.bool false]) (w.alloc (.mapIter (some bm) since #[] c0)):=by
 rcases run_next_map (P:=P) w ty bm since c0 #[] #[] clock hb (by simp) hsc with ⟨-,h⟩|⟨e,he,-⟩
 · exact h
 · simp [leftOf] at he
section
variable {w:World} {a x md mr mm:Nat} {fuel:Int}
set_option maxRecDepth 100000 in
theorem uD (hx:AL w x (KA a fuel md mr mm) 266) (hd:w.heap[md]? = some (.map #[] 0)) (hr:w.heap[mr]? = some (.map #[] 0)) :
 Calls Tryz.prog 196 #[.pointer (some ⟨x,0,none⟩)] w fun e w'=>e=.returned (.slice none 0 0)∧Below w.heap.size w w':=by
 have x14:w.cell? ⟨x,14,none⟩=some (.map (some md)):=hx.at 14 _ rfl
 have xz:w.cell? ⟨x,15,none⟩=some (.map (some mr)):=hx.at 15 _ rfl
 have HS:=qh (fun w'=>bV w')
 have HC:=qh (fun w'=>UM w')
 have hr1:=run_range_map (P:=Tryz.prog) w 260 _ _ md #[] 0 Tryz.underlying260 hd
 have hn1:=fun ty=>aS (P:=Tryz.prog) w ty md 0 0 0 hd (Nat.le_refl _)
 have hr2:(w.alloc (.mapIter (some md) 0 #[] 0)).heap[mr]? = some (.map #[] 0):=(Below.heap_alloc w _ mr (Array.getElem?_eq_some_iff.1 hr).1).trans hr
 have x15b:(w.alloc (.mapIter (some md) 0 #[] 0)).cell? ⟨x,15,none⟩=some (.map (some mr)):=(World.cell?_of_block (a:=⟨x,15,none⟩) (Below.heap_alloc w _ x hx.lt)).trans xz
 have hB1:Below w.heap.size w (w.alloc (.mapIter (some md) 0 #[] 0)):=(Below.refl _ _).alloc (Nat.le_refl _) _
 clear hx
 go_enter Tryz.func196,Tryz.ntmps196
 go_wp2_with fail
 refine wp_loop_rounds 1 ?_
 rw [rounds_succ]
 go_upto_region 6 with fail
 clear hr1 hn1
 generalize w.alloc (.mapIter (some md) 0 #[] 0)=w1 at *
 have hr1:=run_range_map (P:=Tryz.prog) w1 261 _ _ mr #[] 0 Tryz.underlying261 hr2
 have hn1:=fun ty=>aS (P:=Tryz.prog) w1 ty mr 0 0 0 hr2 (Nat.le_refl _)
 go_wp2_with fail
 refine wp_loop_rounds 1 ?_
 rw [rounds_succ]
 go_wp2_with (first
  | (go_at_call 209;(with_reducible refine (HS.out _).mono ?_);rintro e w2 ⟨rfl,hw⟩;rw [hw];clear hw w2)
  | (go_at_call 210;(with_reducible refine (HC.out _).mono ?_);rintro e w2 ⟨rfl,hw⟩;rw [hw];clear hw w2))
 go_ret
 exact ⟨rfl,hB1.alloc hB1.size _⟩
end
end
section
open Go.RowKit
attribute [local go_sem] Oper.semAt_some
theorem XK (w:World):Calls Tryz.prog 21 #[.agg #[.int .i64 0,.int .i64 0,.int .i64 1,.int .i64 0,.slice none 0 0]] w fun e w'=>e=.returned (.int .i64 0)∧Below w.heap.size w w':=by
 have hb:=AL.new w #[.int .i64 0,.int .i64 0,.int .i64 1,.int .i64 0,.slice none 0 0] 32
 have hB:Below w.heap.size w (w.alloc (.cells #[.int .i64 0,.int .i64 0,.int .i64 1,.int .i64 0,.slice none 0 0] 32)):=(Below.refl _ _).alloc (Nat.le_refl _) _
 have x4:=hb.at 4 _ rfl
 clear hb
 go_enter Tryz.func21,Tryz.ntmps21
 go_wp2_with fail
 refine wp_loop_rounds 1 ?_
 rw [rounds_succ]
 go_wp2_with fail
 go_ret
 exact ⟨rfl,hB⟩
theorem Ip {fn:Func} {k1 k2 g:Nat} {tmps:Array Value} {w:World} {a0 a1 a2 a3 a4 b:Value} (hres:fn.results=#[.cell k1 32,.tmp k2]) (h1:tmps[k1]? = some (.pointer (some ⟨g,0,none⟩))) (h2:tmps[k2]? = some b) (hb:AL w g #[a0,a1,a2,a3,a4] 32):(results fn tmps).run Tryz.prog w=.ok (.tuple #[.agg #[a0,a1,a2,a3,a4],b]) w:=by
 have c0:=hb.at 0 _ rfl
 have c1:=hb.at 1 _ rfl
 have c2:=hb.at 2 _ rfl
 have c3:=hb.at 3 _ rfl
 have c4:=hb.at 4 _ rfl
 simp [results,hres,h1,h2,go_sem,c0,c1,c2,c3,c4]
section
variable {w:World} {S:Nat→Prop} {a x md mr mm:Nat} {bs:List UInt8} {fuel:Int}
theorem XL (hx:AL w x (KA a fuel md mr mm) 266) (hd:w.heap[md]? = some (.map #[] 0)) (hr:w.heap[mr]? = some (.map #[] 0)) :
 Calls Tryz.prog 173 #[.pointer (some ⟨x,0,none⟩)] w fun e w'=>e=.returned (.slice none 0 0)∧Below w.heap.size w w':=by
 have HI:=qh (uD hx hd hr)
 clear hx hd hr
 go_enter Tryz.func173,Tryz.ntmps173
 go_wp2_with (go_at_call 196;(with_reducible refine HI.out.mono ?_);rintro e w2 ⟨rfl,hB⟩)
 refine wp_loop_rounds 1 ?_
 rw [rounds_succ]
 go_wp2_with fail
 go_ret
 exact ⟨rfl,hB⟩
theorem QR (w1:World) (a:Nat) (fuel:Int) :
 AL ((((w1.alloc (.map #[] 0)).alloc (.map #[] 0)).alloc (.map #[] 0)).alloc (.cells (KA a fuel w1.heap.size (w1.heap.size+1) (w1.heap.size+1+1)) 266)) (w1.heap.size+1+1+1) (KA a fuel w1.heap.size (w1.heap.size+1) (w1.heap.size+1+1)) 266 ∧
 ((((w1.alloc (.map #[] 0)).alloc (.map #[] 0)).alloc (.map #[] 0)).alloc (.cells (KA a fuel w1.heap.size (w1.heap.size+1) (w1.heap.size+1+1)) 266)).heap[w1.heap.size]? = some (.map #[] 0) ∧
 ((((w1.alloc (.map #[] 0)).alloc (.map #[] 0)).alloc (.map #[] 0)).alloc (.cells (KA a fuel w1.heap.size (w1.heap.size+1) (w1.heap.size+1+1)) 266)).heap[w1.heap.size+1]? = some (.map #[] 0) ∧
 Below w1.heap.size w1 ((((w1.alloc (.map #[] 0)).alloc (.map #[] 0)).alloc (.map #[] 0)).alloc (.cells (KA a fuel w1.heap.size (w1.heap.size+1) (w1.heap.size+1+1)) 266)):=by
 have s1:(w1.alloc (.map #[] 0)).heap.size=w1.heap.size+1:=by simp
 have s2:((w1.alloc (.map #[] 0)).alloc (.map #[] 0)).heap.size=w1.heap.size+1+1:=by simp
 have s3:(((w1.alloc (.map #[] 0)).alloc (.map #[] 0)).alloc (.map #[] 0)).heap.size=w1.heap.size+1+1+1:=by simp
 have h1:=heap_alloc_new w1 (.map #[] 0)
 have h2:=heap_alloc_new (w1.alloc (.map #[] 0)) (.map #[] 0)
 rw [s1] at h2
 have h4:=AL.new (((w1.alloc (.map #[] 0)).alloc (.map #[] 0)).alloc (.map #[] 0)) (KA a fuel w1.heap.size (w1.heap.size+1) (w1.heap.size+1+1)) 266
 rw [s3] at h4
 refine ⟨h4,?_,?_,?_⟩
 · rw [Below.heap_alloc _ _ _ (by omega),Below.heap_alloc _ _ _ (by omega),Below.heap_alloc _ _ _ (by omega)];exact h1
 · rw [Below.heap_alloc _ _ _ (by omega),Below.heap_alloc _ _ _ (by omega)];exact h2
 · exact ((((Below.refl _ _).alloc (Nat.le_refl _) _).alloc (by omega) _).alloc (by omega) _).alloc (by omega) _
set_option maxRecDepth 100000 in
theorem SH (hS:∀ b,S b→b<w.heap.size) (h:Am w S a bs) (hl:bs.length≤140737488355328) (hf:fuel≤9999999) (he:DC bs 2 3 fuel) (he1:DC bs 1 1 fuel) :
 Calls Tryz.prog 132 #[.pointer (some ⟨a,0,none⟩),.agg #[.int .i64 0,.int .i64 0,.int .i64 1,.int .i64 0,.int .i64 8,.int .i64 1,.int .i64 2,.int .i64 3,.int .i64 4,.int .i64 7,.int .i64 5],.int .i64 fuel] w fun e w'=>e=.returned (.tuple #[.agg #[.int .i64 0,.int .i64 0,.int .i64 1,.int .i64 0,.slice none 0 0],.slice none 0 0])∧Below w.heap.size w w':=by
 have hmm:=@run_makeMap Tryz.prog
 have bO:=qh (fun (w':World) x md mr mm (hB:Below w.heap.size w w') hx=>ZC (w:=w') (x:=x) (md:=md) (mr:=mr) (mm:=mm) hx (fun b hb=>Nat.lt_of_lt_of_le (hS b hb) hB.size) (h.below hB hS) hl hf he)
 have oJ:=qh (fun (w':World) x md mr mm (hB:Below w.heap.size w w') hx=>uA (w:=w') (x:=x) (md:=md) (mr:=mr) (mm:=mm) hx (fun b hb=>Nat.lt_of_lt_of_le (hS b hb) hB.size) (h.below hB hS) hl hf he1)
 clear h he he1
 obtain ⟨k1,k2,kB,kz⟩:=AL.two w #[.int .i64 0,.int .i64 0,.int .i64 1,.int .i64 0,.int .i64 8,.int .i64 1,.int .i64 2,.int .i64 3,.int .i64 4,.int .i64 7,.int .i64 5] #[.int .i64 0,.int .i64 0,.int .i64 0,.int .i64 0,.slice none 0 0] 59 32
 go_enter Tryz.func132,Tryz.ntmps132
 go_upto_region 1 with fail
 generalize (w.alloc (.cells #[.int .i64 0,.int .i64 0,.int .i64 1,.int .i64 0,.int .i64 8,.int .i64 1,.int .i64 2,.int .i64 3,.int .i64 4,.int .i64 7,.int .i64 5] 59)).alloc (.cells #[.int .i64 0,.int .i64 0,.int .i64 0,.int .i64 0,.slice none 0 0] 32)=w1 at *
 have KZ:=qh kz
 have K1:=qh k1
 have K2:=qh k2
 have KB:=qh kB
 obtain ⟨x0,x1,x2,x3,x4,x5,x6,x7,x8,x9,OH⟩:w1.cell? ⟨w.heap.size,0,none⟩=some (.int .i64 0)∧w1.cell? ⟨w.heap.size,1,none⟩=some (.int .i64 0)∧w1.cell? ⟨w.heap.size,2,none⟩=some (.int .i64 1)∧w1.cell? ⟨w.heap.size,3,none⟩=some (.int .i64 0)∧w1.cell? ⟨w.heap.size,4,none⟩=some (.int .i64 8)∧w1.cell? ⟨w.heap.size,5,none⟩=some (.int .i64 1)∧w1.cell? ⟨w.heap.size,6,none⟩=some (.int .i64 2)∧w1.cell? ⟨w.heap.size,7,none⟩=some (.int .i64 3)∧w1.cell? ⟨w.heap.size,8,none⟩=some (.int .i64 4)∧w1.cell? ⟨w.heap.size,9,none⟩=some (.int .i64 7)∧w1.cell? ⟨w.heap.size,10,none⟩=some (.int .i64 5):=⟨k1.at 0 _ rfl,k1.at 1 _ rfl,k1.at 2 _ rfl,k1.at 3 _ rfl,k1.at 4 _ rfl,k1.at 5 _ rfl,k1.at 6 _ rfl,k1.at 7 _ rfl,k1.at 8 _ rfl,k1.at 9 _ rfl,k1.at 10 _ rfl⟩
 obtain ⟨hx,hd,hr,hB⟩:=QR w1 a fuel
 unfold KA at hx hd hr hB
 clear k1 k2 kB kz
 go_upto_region 2 with fail
 generalize (((w1.alloc (.map #[] 0)).alloc (.map #[] 0)).alloc (.map #[] 0)).alloc (.cells #[.slice none 0 0,.pointer (some ⟨a,0,none⟩),.int .i64 0,.int .i64 0,.int .i64 1,.int .i64 0,.int .i64 8,.int .i64 1,.int .i64 2,.int .i64 3,.int .i64 4,.int .i64 7,.int .i64 5,.int .i64 fuel,.map (some w1.heap.size),.map (some (w1.heap.size+1)),.map (some (w1.heap.size+1+1))] 266)=w2 at *
 obtain ⟨gx,hgx⟩:∃ q,w1.heap.size+1+1+1=q:=⟨_,rfl⟩
 rw [hgx] at hx ⊢
 have HGX:Hid (w1.heap.size≤gx):=by show _≤_;omega
 have HX:Hid (AL w2 gx (KA a fuel w1.heap.size (w1.heap.size+1) (w1.heap.size+1+1)) 266):=hx
 have HD:=qh hd
 have HR:=qh hr
 have HB2:=qh (KB.out.trans (hB.mono KB.out.size))
 have eG:=qh (K1.out.below hB K1.out.lt)
 have TY:=qh (K2.out.below hB K2.out.lt)
 have HD1:=qh (bO.out w2 gx _ _ _ HB2.out HX.out)
 clear x0 x1 x2 x3 x4 x5 x6 x7 x8 x9 OH hx hd hr hB hgx bO
 go_upto_region 3 with (go_at_call 171;(with_reducible refine HD1.out.mono ?_);rintro e w3 ⟨rfl,hB⟩;have HB3:=qh hB;clear hB)
 have Ve:=qh (HX.out.below HB3.out HX.out.lt)
 have QS:=qh (HB2.out.trans (HB3.out.mono HB2.out.size))
 have HT1:=qh (oJ.out w3 gx _ _ _ QS.out Ve.out)
 clear oJ HD1
 go_upto_region 4 with (go_at_call 172;(with_reducible refine HT1.out.mono ?_);rintro e w4 ⟨rfl,hB⟩;have EQ:=qh hB;clear hB)
 have Qr:=qh (Ve.out.below EQ.out Ve.out.lt)
 have eP:=qh (QS.out.trans (EQ.out.mono QS.out.size))
 have kY:Below w2.heap.size w2 w4:=HB3.out.trans (EQ.out.mono HB3.out.size)
 have HD4:Hid (w4.heap[w1.heap.size]? = some (.map #[] 0)):=(kY.block _ (Array.getElem?_eq_some_iff.1 HD.out).1).trans HD.out
 have HR4:Hid (w4.heap[w1.heap.size+1]? = some (.map #[] 0)):=(kY.block _ (Array.getElem?_eq_some_iff.1 HR.out).1).trans HR.out
 have ZF:=qh (eG.out.below kY eG.out.lt)
 have QT:=qh (TY.out.below kY TY.out.lt)
 obtain ⟨x0,x1,x2,x3⟩:w4.cell? ⟨w.heap.size,0,none⟩=some (.int .i64 0)∧w4.cell? ⟨w.heap.size,1,none⟩=some (.int .i64 0)∧w4.cell? ⟨w.heap.size,2,none⟩=some (.int .i64 1)∧w4.cell? ⟨w.heap.size,3,none⟩=some (.int .i64 0):=⟨ZF.out.at 0 _ rfl,ZF.out.at 1 _ rfl,ZF.out.at 2 _ rfl,ZF.out.at 3 _ rfl⟩
 clear kY
 go_upto_region 5 with fail
 have hp:=AL.new w4 #[.int .i64 0,.int .i64 0,.int .i64 1,.int .i64 0,.slice none 0 0] 32
 have BX:Below w4.heap.size w4 (w4.alloc (.cells #[.int .i64 0,.int .i64 0,.int .i64 1,.int .i64 0,.slice none 0 0] 32)):=(Below.refl _ _).alloc (Nat.le_refl _) _
 obtain ⟨gp,WQ⟩:∃ q,w4.heap.size=q:=⟨_,rfl⟩
 rw [WQ] at hp ⊢
 have oK:Hid (w.heap.size≤gp∧gp≠w.heap.size+1∧gp≠gx):=⟨by have:=eP.out.size;omega,fun e=>by have:=QT.out.lt;omega,fun e=>by have:=Qr.out.lt;omega⟩
 generalize w4.alloc (.cells #[.int .i64 0,.int .i64 0,.int .i64 1,.int .i64 0,.slice none 0 0] 32)=w5 at *
 have Tc:=qh hp
 have oL:=qh (Qr.out.below BX Qr.out.lt)
 have Hy:=qh (QT.out.below BX QT.out.lt)
 have Rs:=qh (eP.out.trans (BX.mono eP.out.size))
 have Zw:=qh (XL oL.out ((BX.block _ (Array.getElem?_eq_some_iff.1 HD4.out).1).trans HD4.out) ((BX.block _ (Array.getElem?_eq_some_iff.1 HR4.out).1).trans HR4.out))
 have y0:w5.cell? ⟨gx,0,none⟩=some (.slice none 0 0):=oL.out.at 0 _ rfl
 clear x0 x1 x2 x3 hp BX WQ
 go_upto_region 7 with (go_at_call 173;(with_reducible refine Zw.out.mono ?_);rintro e w6 ⟨rfl,hB⟩;have kZ:=Tc.out.below hB Tc.out.lt;have z4:w6.cell? ⟨gp,4,none⟩=some (.slice none 0 0):=kZ.at 4 _ rfl;have f4:=kZ.free 4;have l4:=kZ.lt;have Oy:=qh kZ;have D8:=qh hB;clear kZ hB)
 have yA:AL (w6.setCell ⟨gp,4,none⟩ (.slice none 0 0)) gp #[.int .i64 0,.int .i64 0,.int .i64 1,.int .i64 0,.slice none 0 0] 32:=Oy.out.set 4 (.slice none 0 0)
 have hx7:AL (w6.setCell ⟨gp,4,none⟩ (.slice none 0 0)) gx (KA a fuel w1.heap.size (w1.heap.size+1) (w1.heap.size+1+1)) 266:=(oL.out.below D8.out oL.out.lt).far oK.out.2.2 4 _
 have Qn:=(Hy.out.below D8.out Hy.out.lt).far oK.out.2.1 4 (.slice none 0 0)
 have Gs:Below w.heap.size w (w6.setCell ⟨gp,4,none⟩ (.slice none 0 0)):=(Rs.out.trans (D8.out.mono Rs.out.size)).setCell (p:=⟨gp,4,none⟩) oK.out.1 _
 clear y0 z4 f4 l4
 generalize w6.setCell ⟨gp,4,none⟩ (.slice none 0 0)=w7 at *
 have SI:=qh yA
 have Ux:=qh hx7
 have df:=qh Qn
 have Es:=qh Gs
 have iD:=qh (fun w'=>XK w')
 obtain ⟨y0,y1,y2,y3,y4⟩:w7.cell? ⟨gp,0,none⟩=some (.int .i64 0)∧w7.cell? ⟨gp,1,none⟩=some (.int .i64 0)∧w7.cell? ⟨gp,2,none⟩=some (.int .i64 1)∧w7.cell? ⟨gp,3,none⟩=some (.int .i64 0)∧w7.cell? ⟨gp,4,none⟩=some (.slice none 0 0):=⟨SI.out.at 0 _ rfl,SI.out.at 1 _ rfl,SI.out.at 2 _ rfl,SI.out.at 3 _ rfl,SI.out.at 4 _ rfl⟩
 have v0:w7.cell? ⟨gx,0,none⟩=some (.slice none 0 0):=Ux.out.at 0 _ rfl
 clear yA hx7 Qn Gs
 go_upto_region 9 with (go_at_call 21;(with_reducible refine (iD.out _).mono ?_);rintro e w8 ⟨rfl,hB⟩;have Gf:=qh hB;clear hB)
 have U5:=qh (SI.out.below Gf.out SI.out.lt)
 have aM:=qh (Ux.out.below Gf.out Ux.out.lt)
 have XM:=qh (df.out.below Gf.out df.out.lt)
 clear y0 y1 y2 y3 y4 v0
 have v0:w8.cell? ⟨gx,0,none⟩=some (.slice none 0 0):=aM.out.at 0 _ rfl
 obtain ⟨y0,y1,y2,y3,y4⟩:w8.cell? ⟨gp,0,none⟩=some (.int .i64 0)∧w8.cell? ⟨gp,1,none⟩=some (.int .i64 0)∧w8.cell? ⟨gp,2,none⟩=some (.int .i64 1)∧w8.cell? ⟨gp,3,none⟩=some (.int .i64 0)∧w8.cell? ⟨gp,4,none⟩=some (.slice none 0 0):=⟨U5.out.at 0 _ rfl,U5.out.at 1 _ rfl,U5.out.at 2 _ rfl,U5.out.at 3 _ rfl,U5.out.at 4 _ rfl⟩
 obtain ⟨r0,r1,r2,r3,r4⟩:w8.cell? ⟨w.heap.size+1,0,none⟩=some (.int .i64 0)∧w8.cell? ⟨w.heap.size+1,1,none⟩=some (.int .i64 0)∧w8.cell? ⟨w.heap.size+1,2,none⟩=some (.int .i64 0)∧w8.cell? ⟨w.heap.size+1,3,none⟩=some (.int .i64 0)∧w8.cell? ⟨w.heap.size+1,4,none⟩=some (.slice none 0 0):=⟨XM.out.at 0 _ rfl,XM.out.at 1 _ rfl,XM.out.at 2 _ rfl,XM.out.at 3 _ rfl,XM.out.at 4 _ rfl⟩
 have f0:=XM.out.free 0
 have f1:=XM.out.free 1
 have f2:=XM.out.free 2
 have f3:=XM.out.free 3
 have f4:=XM.out.free 4
 go_wp2_with fail
 have Ey:AL (((((w8.setCell ⟨w.heap.size+1,0,none⟩ (.int .i64 0)).setCell ⟨w.heap.size+1,1,none⟩ (.int .i64 0)).setCell ⟨w.heap.size+1,2,none⟩ (.int .i64 1)).setCell ⟨w.heap.size+1,3,none⟩ (.int .i64 0)).setCell ⟨w.heap.size+1,4,none⟩ (.slice none 0 0)) (w.heap.size+1) #[.int .i64 0,.int .i64 0,.int .i64 1,.int .i64 0,.slice none 0 0] 32:=(((((XM.out.set 0 (.int .i64 0)).set 1 (.int .i64 0)).set 2 (.int .i64 1)).set 3 (.int .i64 0)).set 4 (.slice none 0 0))
 have Kr:Below w.heap.size w (((((w8.setCell ⟨w.heap.size+1,0,none⟩ (.int .i64 0)).setCell ⟨w.heap.size+1,1,none⟩ (.int .i64 0)).setCell ⟨w.heap.size+1,2,none⟩ (.int .i64 1)).setCell ⟨w.heap.size+1,3,none⟩ (.int .i64 0)).setCell ⟨w.heap.size+1,4,none⟩ (.slice none 0 0)):=((((((Es.out.trans (Gf.out.mono Es.out.size)).setCell (p:=⟨w.heap.size+1,0,none⟩) (Nat.le_succ _) (.int .i64 0)).setCell (p:=⟨w.heap.size+1,1,none⟩) (Nat.le_succ _) (.int .i64 0)).setCell (p:=⟨w.heap.size+1,2,none⟩) (Nat.le_succ _) (.int .i64 1)).setCell (p:=⟨w.heap.size+1,3,none⟩) (Nat.le_succ _) (.int .i64 0)).setCell (p:=⟨w.heap.size+1,4,none⟩) (Nat.le_succ _) (.slice none 0 0))
 generalize (((((w8.setCell ⟨w.heap.size+1,0,none⟩ (.int .i64 0)).setCell ⟨w.heap.size+1,1,none⟩ (.int .i64 0)).setCell ⟨w.heap.size+1,2,none⟩ (.int .i64 1)).setCell ⟨w.heap.size+1,3,none⟩ (.int .i64 0)).setCell ⟨w.heap.size+1,4,none⟩ (.slice none 0 0))=w9 at *
 exact bodyPost_ret (Ip Tryz.results132 rfl rfl Ey) rfl ⟨rfl,Kr⟩
end
end
section
open Go.RowKit Go.Shelf
attribute [local go_sem] Oper.semAt_some
set_option maxRecDepth 100000 in
theorem eT (w:World) (A:Option Addr) (c:Nat) :
 Calls Tryz.prog 64 #[.slice A 0 c] w fun e w'=>e=.returned (.tuple #[.slice none 0 0,.slice none 0 0,.int .i64 0])∧Below w.heap.size w w':=by
 have f1:Fence.wide.fn 109:=trivial
 refine (callsIn_wide (n:=3)).1 ?_
 refine callsIn_of_wp_marks Tryz.func64 rfl trivial ?_ rfl
 simp only [Tryz.ntmps64,List.size_toArray,List.length_cons,List.length_nil,Nat.reduceAdd,Nat.reduceSub,Array.replicate_succ,Array.replicate_zero,List.push_toArray,List.append_toArray,List.nil_append,List.cons_append]
 gi_upto_region 6 with fail
 gi_loopw [5,6,16] (fun v5 v6 vi wr=>vi=.int .i64 0∧v5=.slice none 0 0∧v6=.slice none 0 0∧wr=w) (fun _ _ vi _=>1)
 case atStart=>exact ⟨rfl,rfl,rfl,rfl⟩
 case round =>
  obtain ⟨rfl,rfl,rfl,hwr⟩:=hrel
  rw [hwr]
  clear hwr wr
  gi_upto_region 15 with fail
  have Ey:=AL.new w #[.slice none 0 0] 148
  have Kr:Below w.heap.size w (w.alloc (.cells #[.slice none 0 0] 148)):=(Below.refl _ _).alloc (Nat.le_refl _) _
  generalize w.alloc (.cells #[.slice none 0 0] 148)=w9 at *
  obtain ⟨g9,Dp⟩:∃ q,w.heap.size=q:=⟨_,rfl⟩
  have Jb:=qh Kr
  have Jc:=qh Dp
  rw [Dp] at Ey ⊢
  have NW:=qh Ey
  clear Ey Kr Dp
  obtain ⟨ka,kb,kB,kz⟩:=AL.two w9 #[.slice none 0 0] #[.int .i64 960] 62 3
  gi_upto_region 16 with (gi_at_call 109;refine (callsIn_wide.2 (QM w9 none 0 0)).mono ?_;rintro e D9 ⟨rfl,hw⟩;rw [hw];clear hw D9)
  generalize (w9.alloc (.cells #[.slice none 0 0] 62)).alloc (.cells #[.int .i64 960] 3)=D9 at *
  have ko:=qh (SA 2 (by omega) w9.heap.size (w9.heap.size+1) 0 none D9 ka)
  have R7:=qh (NW.out.below kB NW.out.lt)
  have HZ:Hid (D9.heap.size=w9.heap.size+2∧g9<w9.heap.size):=⟨kz,NW.out.lt⟩
  have bN:Hid (∀ (W:World) (q:Nat) (o':Obj),D9.heap.size≤q→Ox (fun x=>x=w9.heap.size∨x=w9.heap.size+1) W (W.putObj q o')):=fun W q o' hq=>⟨fun x hx=>World.putObj_heap_other (by rcases hx with rfl|rfl <;> omega),by simp [World.putObj]⟩
  have Hw:Hid (Below w.heap.size w D9):=Jb.out.trans (kB.mono Jb.out.size)
  clear ka kb kB kz NW
  refine Io rfl (by omega) (gf:=160) (lb:=#[.pointer (some ⟨w9.heap.size,0,none⟩),.pointer (some ⟨w9.heap.size+1,0,none⟩)]) rfl trivial (enters_of Tryz.func160 (by kernel_rfl) rfl) ko.out (fun _ _ h=>h.elim) (fun h q=>h.trans q) bN.out (fun _=>rfl)
   (fun q W=>AL W g9 #[.slice none 0 0] 148∧Below D9.heap.size D9 W) (fun _ _ _=>False) ?hI ?hIx ?eF ?R9 ?h0 ?Lv ?hdone ?hstop
  case hI =>
   rintro q W W' row ⟨hb,hB⟩ hg2 hr
   exact ⟨(KC.grown hg2 (fun r e=>(hr r e).2)).box hb,ownFrom_below (n₀:=D9.heap.size) (Nat.le_refl _) (Nat.le_refl _) q W W' row hB hg2 hr⟩
  case hIx=>intro cc q W W' row h;exact h.elim
  case eF=>rintro q W W' h hw;exact hw.elim
  case R9=>intro cc q W W' h;exact h.elim
  case h0=>exact ⟨R7.out,Below.refl _ _⟩
  case Lv =>
   rintro lp q W ⟨hb,hB⟩
   have DL:=qh hb
   have IL:=qh hB
   have uG:Hid (Ox (fun x=>x=w9.heap.size∨x=w9.heap.size+1) W W):=Ox.refl
   clear hb hB
   dsimp only
   gi_wp2
   refine ⟨(KeepsOthers.refl _).from _,uG.out,⟨DL.out,IL.out⟩,?_⟩
   rintro l2 U hl2 hr Ko hkN
   omega
  case hdone =>
   rintro D W hD ⟨Ey,hB⟩ hK
   have q9:=Ey.at 0 _ rfl
   have hz:=HZ.out
   have hg:=Jc.out
   have hBW:Below w.heap.size w W:=Hw.out.trans (hB.mono Hw.out.size)
   have HK:=qh hK
   have HF:Hid (Below w.heap.size w (W.putObj D (.deferred none))):=hBW.grown (grownBy_putObj' W D _) hBW.size (fun q e=>by cases e;omega)
   clear hB hBW hz hg Ey hD hK
   gi_wp2
   refine aT (v:=.tuple #[.slice none 0 0,.slice none 0 0,.int .i64 0]) HK.out (by simp [results,Tryz.results64,go_sem]) rfl ⟨rfl,HF.out⟩
  case hstop=>rintro D cc q W hD hq h;exact h.elim
end
end Go.Proofs.YthblbddmcdnllaaGreatDoor
