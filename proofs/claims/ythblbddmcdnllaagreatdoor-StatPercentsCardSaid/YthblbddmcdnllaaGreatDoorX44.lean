/- A part of the proof: WChart, WChart2, WAudit4. -/
import Derived.Test.YthblbddmcdnllaaGreatDoorX34
import Derived.Test.YthblbddmcdnllaaGreatDoorX12
import Derived.Test.YthblbddmcdnllaaGreatDoorX21
import Derived.Test.YthblbddmcdnllaaGreatDoorX41
import Derived.BigQuiet
import Derived.Test.YthblbddmcdnllaaGreatDoorX36
import Derived.Test.YthblbddmcdnllaaGreatDoorX9
import Derived.Test.YthblbddmcdnllaaGreatDoorX23
import Derived.Test.YthblbddmcdnllaaGreatDoorX40
import Derived.Test.YthblbddmcdnllaaGreatDoorY1
set_option maxHeartbeats 6400000
set_option linter.unusedVariables false
set_option linter.unusedSimpArgs false
namespace Go.Proofs.YthblbddmcdnllaaGreatDoor
section
open Go.RowKit
attribute [local go_sem] Oper.semAt_some
section
variable {w:World} {S:Nat→Prop} {a:Nat} {bs:List UInt8}
set_option maxRecDepth 100000 in
theorem vL (over fuel:Int) (hS:∀ b,S b→b<w.heap.size) (h:Am w S a bs) (hl:bs.length≤140737488355328) (hf:fuel≤9999999) (he:DC bs over 5 fuel) :
 Calls Tryz.prog 199 #[.pointer (some ⟨a,0,none⟩),.slice none 0 0,.int .i64 over,.int .i64 0,.int .i64 fuel] w fun e w'=>e=.returned (.tuple #[.slice none 0 0,.nilIface])∧Below w.heap.size w w':=by
 have HW:=qh (SG over 5 fuel hS h hl hf he)
 have HJ:=qh (fun w' B d=>jA w' none 0 B d)
 clear h he
 go_enter Tryz.func199,Tryz.ntmps199
 go_wp2_with fail
 refine wp_loop_rounds 1 ?_
 rw [rounds_succ]
 go_upto_region 13 with (go_at_call 198;(with_reducible refine HW.out.mono ?_);rintro e w2 ⟨⟨Ae,ce,Ab,nb,cb,dp,lk,Af,cf,rfl⟩,hB⟩;have HB:=qh hB;clear hB)
 have hb3:=AL.new w2 #[.slice Ae 0 ce,.slice Ab nb cb,.int .i64 dp,.int .i64 lk,.slice Af 0 cf] 301
 have hB3:Below w2.heap.size w2 (w2.alloc (.cells #[.slice Ae 0 ce,.slice Ab nb cb,.int .i64 dp,.int .i64 lk,.slice Af 0 cf] 301)):=(Below.refl _ _).alloc (Nat.le_refl _) _
 generalize w2.alloc (.cells #[.slice Ae 0 ce,.slice Ab nb cb,.int .i64 dp,.int .i64 lk,.slice Af 0 cf] 301)=w3 at *
 have x0:w3.cell? ⟨w2.heap.size,0,none⟩=some (.slice Ae 0 ce):=hb3.at 0 _ rfl
 have HB3:=qh (HB.out.trans (hB3.mono HB.out.size))
 clear hb3 hB3
 go_wp2_with (go_at_call 212;(with_reducible refine (HJ.out _ _ _).mono ?_);rintro e w4 ⟨rfl,hB4⟩)
 go_ret2
 exact ⟨rfl,HB3.out.trans (hB4.mono HB3.out.size)⟩
set_option maxRecDepth 100000 in
theorem Zn (k m:Nat) (at_:Int) (hS:∀ b,S b→b<w.heap.size) (h:Am w S a bs) (hl:bs.length≤140737488355328) (hb:Ga bs k) (hm:AC (AO bs k) 0 4=m) (h1:0<m) (hx:∀ x∈bitsOf (AO bs k),0<x∧x<3) :
 Calls Tryz.prog 211 #[.agg #[.int .i64 (k:Int),.int .i64 0,.int .i64 (m:Int),.int .i64 at_,.int .i64 0],.pointer (some ⟨a,0,none⟩),.int .i64 (m:Int)] w fun e w'=>(∃ A c,e=.returned (.tuple #[.slice A m c,.nilIface])∧w'.ownsRow w.heap.size 3 1 (.slice A m c) m (AA encI (bitsOf (AO bs k))))∧Below w.heap.size w w':=by
 have hbx:=AL.new w #[.int .i64 (k:Int),.int .i64 0,.int .i64 (m:Int),.int .i64 at_,.int .i64 0] 315
 have hBx:Below w.heap.size w (w.alloc (.cells #[.int .i64 (k:Int),.int .i64 0,.int .i64 (m:Int),.int .i64 at_,.int .i64 0] 315)):=(Below.refl _ _).alloc (Nat.le_refl _) _
 have HB:=qh (fun (w':World) (hB:Below w.heap.size w w')=>NT k (fun b hb=>Nat.lt_of_lt_of_le (hS b hb) hB.size) (h.below hB hS) hl hb)
 have zO:m≤960:=by rw [← hm];exact hb.2.2.1
 have hlen:(bitsOf (AO bs k)).length=m:=by rw [← hm];unfold bitsOf;rw [List.length_map,List.length_range]
 rw [hm] at HB
 have oU:=qh (fun (w':World) g c (hg:∀ j u,(AA encI (bitsOf (AO bs k)))[j]? = some u→w'.cell? ((⟨g,0,none⟩:Addr).add j)=some u)=>Nc w' g 0 m c (fun i=>nth 0 (bitsOf (AO bs k)) i) (fun i hi=>by
  have hi2:i<(bitsOf (AO bs k)).length:=by omega
  have e:=AZ 0 _ i hi2
  have h1:=hg i (.int .i64 (nth 0 (bitsOf (AO bs k)) i)) (by rw [Bq,e];simp [hi2])
  have h2:=hx _ (Ci 0 _ i hi2)
  rw [add_lit] at h1
  exact ⟨h1,by omega⟩) (by omega))
 generalize bitsOf (AO bs k)=l at *
 clear h hb hm hx
 go_enter Tryz.func211,Tryz.ntmps211
 go_upto_region 1 with fail
 generalize w.alloc (.cells #[.int .i64 (k:Int),.int .i64 0,.int .i64 (m:Int),.int .i64 at_,.int .i64 0] 315)=w1 at *
 obtain ⟨x0,x1,x2,x3,x4⟩:w1.cell? ⟨w.heap.size,0,none⟩=some (.int .i64 (k:Int))∧w1.cell? ⟨w.heap.size,1,none⟩=some (.int .i64 0)∧w1.cell? ⟨w.heap.size,2,none⟩=some (.int .i64 (m:Int))∧w1.cell? ⟨w.heap.size,3,none⟩=some (.int .i64 at_)∧w1.cell? ⟨w.heap.size,4,none⟩=some (.int .i64 0):=⟨hbx.at 0 _ rfl,hbx.at 1 _ rfl,hbx.at 2 _ rfl,hbx.at 3 _ rfl,hbx.at 4 _ rfl⟩
 have HBI:=qh (HB.out w1 hBx)
 have HX:=qh hbx
 have HB1:=qh hBx
 clear hbx hBx
 go_upto_region 6 with (go_at_call 153;(with_reducible refine HBI.out.mono ?_);rintro e w2 ⟨⟨A5,c5,rfl,IW⟩,BX⟩;obtain ⟨gs,hA,-,-,hs⟩:=BS IW (by omega);subst hA;have KR:=qh IW;have HFQ:=qh (oU.out w2 gs c5 hs);have DT:=qh BX;clear IW hs BX)
 have Vb:=HX.out.below DT.out HX.out.lt
 clear x0 x1 x2 x3 x4
 obtain ⟨x0,x1,x2,x3,x4⟩:w2.cell? ⟨w.heap.size,0,none⟩=some (.int .i64 (k:Int))∧w2.cell? ⟨w.heap.size,1,none⟩=some (.int .i64 0)∧w2.cell? ⟨w.heap.size,2,none⟩=some (.int .i64 (m:Int))∧w2.cell? ⟨w.heap.size,3,none⟩=some (.int .i64 at_)∧w2.cell? ⟨w.heap.size,4,none⟩=some (.int .i64 0):=⟨Vb.at 0 _ rfl,Vb.at 1 _ rfl,Vb.at 2 _ rfl,Vb.at 3 _ rfl,Vb.at 4 _ rfl⟩
 clear Vb
 go_wp2_with (go_at_call 113;(with_reducible refine HFQ.out.mono ?_);rintro e w3 ⟨rfl,hw⟩;rw [hw];clear hw w3)
 go_ret2
 exact ⟨⟨_,c5,rfl,KR.out.mono HB1.out.size⟩,HB1.out.trans (DT.out.mono HB1.out.size)⟩
theorem Vd:(Tryz.prog.info? 62).map (fun i=>(i.zero,i.size,i.bytes))=some (some (.slice none 0 0),1,24):=by kernel_rfl
set_option maxRecDepth 100000 in
theorem all1 (gp cp k:Nat) (at_ over fuel:Int) (hS:∀ b,S b→b<w.heap.size) (h:Am w S a bs) (hl:bs.length≤140737488355328) (hf:fuel≤9999999) (he:DC bs over 5 fuel) (hb:Ga bs k) (hm:AC (AO bs k) 0 4=8) (hx:∀ x∈bitsOf (AO bs k),0<x∧x<3)
 (hp:∀ j u,[Value.int .i64 (k:Int),.int .i64 0,.int .i64 8,.int .i64 at_,.int .i64 0][j]? = some u→w.cell? ((⟨gp,0,none⟩:Addr).add j)=some u) :
 Calls Tryz.prog 199 #[.pointer (some ⟨a,0,none⟩),.slice (some ⟨gp,0,none⟩) 1 cp,.int .i64 over,.int .i64 8,.int .i64 fuel] w fun e w'=>(∃ A c,e=.returned (.tuple #[.slice A 8 c,.nilIface])∧w'.ownsRow w.heap.size 3 1 (.slice A 8 c) 8 (AA encI (bitsOf (AO bs k))))∧Below w.heap.size w w':=by
 have HI:=qh (fun (w':World) (hB:Below w.heap.size w w')=>And.intro (fun b (hb:S b)=>Nat.lt_of_lt_of_le (hS b hb) hB.size) (h.below hB hS))
 have HP:Hid (∀ w',Below w.heap.size w w'→Calls Tryz.prog 211 #[.agg #[.int .i64 (k:Int),.int .i64 0,.int .i64 8,.int .i64 at_,.int .i64 0],.pointer (some ⟨a,0,none⟩),.int .i64 8] w' fun e w''=>(∃ A c,e=.returned (.tuple #[.slice A 8 c,.nilIface])∧w''.ownsRow w'.heap.size 3 1 (.slice A 8 c) 8 (AA encI (bitsOf (AO bs k))))∧Below w'.heap.size w' w''):=fun w' hB=>Zn k 8 at_ (HI.out w' hB).1 (HI.out w' hB).2 hl hb hm (by omega) hx
 have HW:Hid (∀ w',Below w.heap.size w w'→Calls Tryz.prog 198 #[.pointer (some ⟨a,0,none⟩),.int .i64 over,.int .i64 5,.int .i64 fuel] w' fun e w''=>(∃ Ae ce Ab nb cb dp lk Af cf,e=.returned (.tuple #[.agg #[.slice Ae 0 ce,.slice Ab nb cb,.int .i64 dp,.int .i64 lk,.slice Af 0 cf],.nilIface]))∧Below w'.heap.size w' w''):=fun w' hB=>SG over 5 fuel (HI.out w' hB).1 (HI.out w' hB).2 hl hf he
 have hlen:(bitsOf (AO bs k)).length=8:=by rw [← hm];unfold bitsOf;rw [List.length_map,List.length_range]
 have HJ:=qh (fun (w':World) gl cl gi ci B d hgi hgl hc0 hc=>jD w' gl cl gi ci 8 (bitsOf (AO bs k)) B d hlen (by omega) (by omega) (fun x h=>⟨by have:=(hx x h).1;omega,(hx x h).2⟩) hgi hgl hc0 hc)
 have Jr:=qh hlen
 have x0:w.cell? ⟨gp,0,none⟩=some (.int .i64 (k:Int)):=hp 0 _ rfl
 have x1:w.cell? ⟨gp,1,none⟩=some (.int .i64 0):=hp 1 _ rfl
 have x2:w.cell? ⟨gp,2,none⟩=some (.int .i64 8):=hp 2 _ rfl
 have x3:w.cell? ⟨gp,3,none⟩=some (.int .i64 at_):=hp 3 _ rfl
 have x4:w.cell? ⟨gp,4,none⟩=some (.int .i64 0):=hp 4 _ rfl
 generalize bitsOf (AO bs k)=l at *
 clear h he hb hm hx hp hlen HI
 go_enter Tryz.func199,Tryz.ntmps199
 go_wp2_with fail
 refine wp_loop_rounds 2 ?_
 rw [rounds_succ]
 go_upto_region 5 with fail
 have hb2:=AL.new w #[.int .i64 (k:Int),.int .i64 0,.int .i64 8,.int .i64 at_,.int .i64 0] 315
 have hB2:Below w.heap.size w (w.alloc (.cells #[.int .i64 (k:Int),.int .i64 0,.int .i64 8,.int .i64 at_,.int .i64 0] 315)):=(Below.refl _ _).alloc (Nat.le_refl _) _
 generalize w.alloc (.cells #[.int .i64 (k:Int),.int .i64 0,.int .i64 8,.int .i64 at_,.int .i64 0] 315)=w2 at *
 clear x0 x1 x2 x3 x4
 obtain ⟨x0,x1,x2,x3,x4⟩:w2.cell? ⟨w.heap.size,0,none⟩=some (.int .i64 (k:Int))∧w2.cell? ⟨w.heap.size,1,none⟩=some (.int .i64 0)∧w2.cell? ⟨w.heap.size,2,none⟩=some (.int .i64 8)∧w2.cell? ⟨w.heap.size,3,none⟩=some (.int .i64 at_)∧w2.cell? ⟨w.heap.size,4,none⟩=some (.int .i64 0):=⟨hb2.at 0 _ rfl,hb2.at 1 _ rfl,hb2.at 2 _ rfl,hb2.at 3 _ rfl,hb2.at 4 _ rfl⟩
 have HPQ:=qh (HP.out w2 hB2)
 have HB2:=qh hB2
 clear hb2 hB2 HP
 go_upto_region 6 with fail
 rw [show min (8:Int) 960=8 from by decide]
 go_upto_region 9 with (go_at_call 211;(with_reducible refine HPQ.out.mono ?_);rintro e w3 ⟨⟨A3,c3,rfl,ho3⟩,hB3⟩;obtain ⟨gi,hA,hgi,hgl,hs⟩:=BS ho3 (by omega);subst hA;have PZ:=qh ho3;have rR:=qh hs;have HB3:=qh hB3;clear ho3 hs hB3)
 clear x0 x1 x2 x3 x4
 have QS:=qh (HB2.out.trans (HB3.out.mono HB2.out.size))
 go_upto_region 10 with (at_builtin;go_loud (refine Cx Tryz.underlying148 Vd rfl (by omega) (by omega) rfl _ _ rfl w3.heap.size (.slice none 0 0) 0 [] rfl (World.ownsRow_nil _ _ _ _) (some ⟨w3.heap.size,0,none⟩) 1 1 [.slice (some ⟨gi,0,none⟩) 8 c3] rfl rfl ?_ (by intro u hu;simp at hu;subst hu;rfl) (by omega) (by simp) (fun h=>by cases h) ?_);(intro dd hdd;obtain rfl:_=dd:=(by injection hdd);exact Cm w3 [.slice (some ⟨gi,0,none⟩) 8 c3] _);intro A8 c8 w8 CQ Du Eu;have IU:=qh CQ;have Hg:=qh (Dx Du);clear CQ Du Eu)
 have Gf:Hid (Below w3.heap.size w3 w8):=(Below.refl _ _).grown Hg.out (Nat.le_refl _) (fun k hk=>by simp [Value.ownBlock] at hk)
 obtain ⟨gl,di,mq,-,ZK⟩:=BS IU.out (by omega)
 subst di
 have Vj:=qh ZK
 have HWQ:=qh (HW.out w8 (QS.out.trans (Gf.out.mono QS.out.size)))
 have oh:Hid (gi<w3.heap.size∧gl<w8.heap.size):=⟨hgi,mq⟩
 clear hgi hgl mq ZK HW
 go_wp2_with fail
 rw [rounds_succ]
 go_upto_region 13 with (go_at_call 198;(with_reducible refine HWQ.out.mono ?_);rintro e w9 ⟨⟨Ae,ce,Ab,nb,cb,dp,lk,Af,cf,rfl⟩,hB⟩;have Jb:=qh hB;clear hB)
 have hb3:=AL.new w9 #[.slice Ae 0 ce,.slice Ab nb cb,.int .i64 dp,.int .i64 lk,.slice Af 0 cf] 301
 have hBa:Below w9.heap.size w9 (w9.alloc (.cells #[.slice Ae 0 ce,.slice Ab nb cb,.int .i64 dp,.int .i64 lk,.slice Af 0 cf] 301)):=(Below.refl _ _).alloc (Nat.le_refl _) _
 generalize w9.alloc (.cells #[.slice Ae 0 ce,.slice Ab nb cb,.int .i64 dp,.int .i64 lk,.slice Af 0 cf] 301)=wa at *
 have x0:wa.cell? ⟨w9.heap.size,0,none⟩=some (.slice Ae 0 ce):=hb3.at 0 _ rfl
 have ol:Below w8.heap.size w8 wa:=Jb.out.trans (hBa.mono Jb.out.size)
 have om:Below w3.heap.size w3 wa:=Gf.out.trans (ol.mono Gf.out.size)
 have R8:=qh (QS.out.trans (om.mono QS.out.size))
 have HJQ:=qh (HJ.out wa gl c8 gi c3 Ae ce (Nat.lt_of_lt_of_le oh.out.1 om.size) (Nat.lt_of_lt_of_le oh.out.2 ol.size) (AY ol oh.out.2 (by have:=Vj.out 0 _ rfl;rwa [add_lit] at this)) (fun i hi=>AY om oh.out.1 (by
  have:=rR.out i (.int .i64 (nth 0 l i)) (by rw [Bq,AZ 0 l i (by rw [Jr.out];exact hi)];simp [Jr.out,hi])
  rw [add_lit,Nat.zero_add] at this
  exact this)))
 clear hb3 hBa ol om HJ
 go_wp2_with (go_at_call 212;(with_reducible refine HJQ.out.mono ?_);rintro e wb ⟨⟨Ab',cb',rfl,ym⟩,hBb⟩;have HOB:=qh (ym.mono (Nat.le_succ_of_le R8.out.size));clear ym)
 go_ret2
 exact ⟨⟨_,_,rfl,HOB.out⟩,R8.out.trans (hBb.mono R8.out.size)⟩
end
end
section
open Go.RowKit
attribute [local go_sem] Oper.semAt_some
theorem Qg:(Tryz.prog.info? 315).map (fun i=>(i.zero,i.size,i.bytes))=some (some (.agg #[.int .i64 0,.int .i64 0,.int .i64 0,.int .i64 0,.int .i64 0]),5,40):=by kernel_rfl
section
variable {w:World} {S:Nat→Prop} {a:Nat} {bs:List UInt8}
set_option maxRecDepth 100000 in
theorem Sq (index over fuel:Int) (hS:∀ b,S b→b<w.heap.size) (h:Am w S a bs) (hl:bs.length≤140737488355328) (hf:fuel≤9999999) (he:DC bs over 5 fuel) (hi:DC bs index 4 fuel) :
 Calls Tryz.prog 175 #[.pointer (some ⟨a,0,none⟩),.int .i64 index,.int .i64 over,.int .i64 0,.int .i64 fuel] w fun e w'=>e=.returned (.tuple #[.slice none 0 0,.nilIface])∧Below w.heap.size w w':=by
 have HW:=qh (SG index 4 fuel hS h hl hf hi)
 have HA:=qh (fun (w':World) (hB:Below w.heap.size w w')=>vL (w:=w') over fuel (fun b hb=>Nat.lt_of_lt_of_le (hS b hb) hB.size) (h.below hB hS) hl hf he)
 have ai:=qh (fun w'=>Qa w')
 clear h he hi
 go_enter Tryz.func175,Tryz.ntmps175
 go_upto_region 2 with (go_at_call 198;(with_reducible refine HW.out.mono ?_);rintro e w2 ⟨⟨Ae,ce,Ab,nb,cb,dp,lk,Af,cf,rfl⟩,hB⟩;have HB:=qh hB;clear hB)
 have hb3:=AL.new w2 #[.slice Ae 0 ce,.slice Ab nb cb,.int .i64 dp,.int .i64 lk,.slice Af 0 cf] 301
 have hB3:Below w2.heap.size w2 (w2.alloc (.cells #[.slice Ae 0 ce,.slice Ab nb cb,.int .i64 dp,.int .i64 lk,.slice Af 0 cf] 301)):=(Below.refl _ _).alloc (Nat.le_refl _) _
 generalize w2.alloc (.cells #[.slice Ae 0 ce,.slice Ab nb cb,.int .i64 dp,.int .i64 lk,.slice Af 0 cf] 301)=w3 at *
 have x0:w3.cell? ⟨w2.heap.size,0,none⟩=some (.slice Ae 0 ce):=hb3.at 0 _ rfl
 have gM:=HB.out.trans (hB3.mono HB.out.size)
 have iO:Hid (∀ n,Below w.heap.size w (w3.drewN n)):=fun n=>gM.trans ⟨rfl,rfl,rfl,Nat.le_refl _,fun _ _=>rfl⟩
 have vM:=qh (fun n=>HA.out (w3.drewN n) (iO.out n))
 have HB3:=qh gM
 clear hb3 hB3 gM
 go_upto_region 4 with fail
 go_quiet ((go_at_call 72;refine Calls.quiet_of_same (ai.out _)))
 go_wp2_with fail
 refine wp_loop_rounds 1 ?_
 rw [rounds_succ]
 go_wp2_with (go_at_call 199;(with_reducible refine (vM.out _).mono ?_);rintro e w4 ⟨rfl,hB4⟩)
 go_ret2
 exact ⟨rfl,(iO.out _).trans (hB4.mono (iO.out _).size)⟩
set_option maxRecDepth 100000 in
theorem Sr (ix k:Nat) (over fuel:Int) (hS:∀ b,S b→b<w.heap.size) (h:Am w S a bs) (hl:bs.length≤140737488355328) (hf:fuel≤9999999) (he:DC bs over 5 fuel) (hi:Lh bs ix k 0 8) (hb:Ga bs k) (hm:AC (AO bs k) 0 4=8) (hx:∀ x∈bitsOf (AO bs k),0<x∧x<3) :
 Calls Tryz.prog 176 #[.pointer (some ⟨a,0,none⟩),.int .i64 (ix:Int),.int .i64 over,.int .i64 8,.int .i64 fuel] w fun e w'=>(∃ A c,e=.returned (.tuple #[.slice A 8 c,.nilIface])∧w'.ownsRow w.heap.size 3 1 (.slice A 8 c) 8 (AA encI (bitsOf (AO bs k))))∧Below w.heap.size w w':=by
 have HI:=qh (Li ix k 0 8 hS h hl hi)
 have HA:=qh (fun (w':World) gp cp (hB:Below w.heap.size w w') hp=>all1 (w:=w') gp cp k ix over fuel (fun b hb=>Nat.lt_of_lt_of_le (hS b hb) hB.size) (h.below hB hS) hl hf he hb hm hx hp)
 have ai:=qh (fun w'=>QZ w')
 generalize bitsOf (AO bs k)=l at *
 clear h he hi hb hm hx
 go_enter Tryz.func176,Tryz.ntmps176
 go_wp2_with (first
  | (go_at_call 150;(with_reducible refine HI.out.mono ?_);rintro e w2 ⟨⟨A,c,rfl,ho⟩,hB⟩;obtain ⟨gs,hA,-,-,hs⟩:=BS ho (by omega);subst hA;have x0:=hs 0 _ rfl;have x1:=hs 1 _ rfl;have x2:=hs 2 _ rfl;have HB2:=qh hB;clear ho hs hB)
  | (go_at_call 72;(with_reducible refine (ai.out _).mono ?_);rintro e w3 ⟨rfl,hw⟩;rw [hw];clear hw w3))
 rw [add_lit,Nat.zero_add] at x0 x1 x2
 refine wp_loop_rounds 2 ?_
 rw [rounds_succ]
 go_upto_region 10 with fail
 have hb3:=AL.new w2 #[.int .i64 (k:Int),.int .i64 0,.int .i64 8] 153
 have hB3:Below w2.heap.size w2 (w2.alloc (.cells #[.int .i64 (k:Int),.int .i64 0,.int .i64 8] 153)):=(Below.refl _ _).alloc (Nat.le_refl _) _
 generalize w2.alloc (.cells #[.int .i64 (k:Int),.int .i64 0,.int .i64 8] 153)=w3 at *
 clear x0 x1 x2
 obtain ⟨x0,x1,x2⟩:w3.cell? ⟨w2.heap.size,0,none⟩=some (.int .i64 (k:Int))∧w3.cell? ⟨w2.heap.size,1,none⟩=some (.int .i64 0)∧w3.cell? ⟨w2.heap.size,2,none⟩=some (.int .i64 8):=⟨hb3.at 0 _ rfl,hb3.at 1 _ rfl,hb3.at 2 _ rfl⟩
 have HB3:=qh (HB2.out.trans (hB3.mono HB2.out.size))
 clear hb3 hB3
 go_upto_region 11 with (at_builtin;go_loud (refine Cx Tryz.underlying313 Qg rfl (by omega) (by omega) rfl _ _ rfl w3.heap.size (.slice none 0 0) 0 [] rfl (World.ownsRow_nil _ _ _ _) (some ⟨w3.heap.size,0,none⟩) 1 1 [.int .i64 (k:Int),.int .i64 0,.int .i64 8,.int .i64 (ix:Int),.int .i64 0] rfl rfl ?_ (by intro u hu;simp at hu;rcases hu with rfl|rfl|rfl|rfl|rfl <;> rfl) (by omega) (by simp) (fun h=>by cases h) ?_);(intro dd hdd;obtain rfl:_=dd:=(by injection hdd);exact Cm w3 [.int .i64 (k:Int),.int .i64 0,.int .i64 8,.int .i64 (ix:Int),.int .i64 0] _);intro A8 c8 w8 CQ Du Eu;have IU:=qh CQ;have Hg:=qh (Dx Du);clear CQ Du Eu)
 have KS:Below w3.heap.size w3 w8:=(Below.refl _ _).grown Hg.out (Nat.le_refl _) (fun k hk=>by simp [Value.ownBlock] at hk)
 have Gf:=qh (HB3.out.trans (KS.mono HB3.out.size))
 obtain ⟨gp,di,-,-,ZK⟩:=BS IU.out (by omega)
 subst di
 have vM:=qh (HA.out w8 gp c8 Gf.out ZK)
 clear x0 x1 x2 KS ZK HA
 go_wp2_with fail
 rw [rounds_succ]
 go_wp2_with (go_at_call 199;(with_reducible refine vM.out.mono ?_);rintro e w9 ⟨⟨A9,c9,rfl,Z5⟩,Kr⟩;have Yh:=qh (Z5.mono Gf.out.size);clear Z5)
 go_ret2
 exact ⟨⟨_,_,rfl,Yh.out⟩,Gf.out.trans (Kr.mono Gf.out.size)⟩
end
end
section
open Go.RowKit
attribute [local go_sem] Oper.semAt_some
def Xr (bs:List UInt8):Prop:=DJ bs=0∧Jh bs=Wp
section
variable {w:World} {S:Nat→Prop} {a:Nat} {bs:List UInt8} {fuel:Int}
theorem Xt (hS:∀ b,S b→b<w.heap.size) (h:Am w S a bs) (hl:bs.length≤140737488355328) (hs:Xr bs) :
 Calls Tryz.prog 19 #[.pointer (some ⟨a,0,none⟩)] w fun e w'=>e=.returned (.tuple #[JX,.nilIface])∧Below w.heap.size w w':=by
 refine (MF w S a bs hS h hl).mono ?_
 rintro e w' ⟨⟨ev,rfl,he⟩,hB⟩
 unfold Bf at he
 rw [if_pos hs.1] at he
 rw [hs.2,he]
 exact ⟨rfl,hB⟩
theorem Su (kd:Int) (ga oa gb ob n c d:Nat) (f:Nat→Int) (hn:n≤1000000) (ha:∀ i,i<n→w.cell? ⟨ga,oa+i,none⟩=some (.int .i64 (f i))) (hb:∀ i,i<n→w.cell? ⟨gb,ob+i,none⟩=some (.int .i64 (f i))) (hla:0<n→ga<w.heap.size∧gb<w.heap.size) :
 Calls Tryz.prog 138 #[.int .i64 kd,.slice (some ⟨ga,oa,none⟩) n c,.slice (some ⟨gb,ob,none⟩) n d] w fun e w'=>e=.returned (.slice none 0 0)∧Below w.heap.size w w':=by
 have hx:=AL.new w #[.slice none 0 0] 264
 have hB1:Below w.heap.size w (w.alloc (.cells #[.slice none 0 0] 264)):=(Below.refl _ _).alloc (Nat.le_refl _) _
 have hD:Hid (∀ W,Below w.heap.size w W→Calls Tryz.prog 177 #[.slice (some ⟨ga,oa,none⟩) n c,.slice (some ⟨gb,ob,none⟩) n d] W fun e w'=>e=.returned (.slice none 0 0)∧Below W.heap.size W w'):=fun W hB=>PX W ga oa gb ob n c d f hn (fun i hi=>AY hB (hla (by omega)).1 (ha i hi)) (fun i hi=>AY hB (hla (by omega)).2 (hb i hi)) (fun h=>⟨Nat.lt_of_lt_of_le (hla h).1 hB.size,Nat.lt_of_lt_of_le (hla h).2 hB.size⟩)
 clear ha hb hla
 go_enter Tryz.func138,Tryz.ntmps138
 go_upto_region 2 with fail
 generalize w.alloc (.cells #[.slice none 0 0] 264)=w1 at *
 have HDQ:=qh (hD.out w1 hB1)
 have HX:=qh hx
 clear hD hx
 go_wp2_with (go_at_call 177;(with_reducible refine HDQ.out.mono ?_);rintro e w2 ⟨rfl,hB⟩;have hx2:=HX.out.below hB HX.out.lt;have x0:w2.cell? ⟨w.heap.size,0,none⟩=some (.slice none 0 0):=hx2.at 0 _ rfl;clear hx2)
 refine wp_loop_rounds 1 ?_
 rw [rounds_succ]
 go_wp2_with fail
 go_ret
 exact ⟨rfl,hB1.trans (hB.mono hB1.size)⟩
theorem Zo (w:World) (kd:Int) (A B:Option Addr) (c d:Nat) :
 Calls Tryz.prog 138 #[.int .i64 kd,.slice A 0 c,.slice B 0 d] w fun e w'=>e=.returned (.slice none 0 0)∧Below w.heap.size w w':=by
 have hx:=AL.new w #[.slice none 0 0] 264
 have hB1:Below w.heap.size w (w.alloc (.cells #[.slice none 0 0] 264)):=(Below.refl _ _).alloc (Nat.le_refl _) _
 have HD:=qh (fun w'=>YT w' A B c d)
 have x0:(w.alloc (.cells #[.slice none 0 0] 264)).cell? ⟨w.heap.size,0,none⟩=some (.slice none 0 0):=hx.at 0 _ rfl
 go_enter Tryz.func138,Tryz.ntmps138
 go_wp2_with (go_at_call 177;(with_reducible refine (HD.out _).mono ?_);rintro e w2 ⟨rfl,hw⟩;rw [hw];clear hw w2)
 refine wp_loop_rounds 1 ?_
 rw [rounds_succ]
 go_wp2_with fail
 go_ret
 exact ⟨rfl,hB1⟩
theorem Ot {fn:Func} {k1 k2 g:Nat} {tmps:Array Value} {w:World} {b:Value} (hres:fn.results=#[.cell k1 59,.tmp k2]) (h1:tmps[k1]? = some (.pointer (some ⟨g,0,none⟩))) (h2:tmps[k2]? = some b) (hb:AL w g P8 59):(results fn tmps).run Tryz.prog w=.ok (.tuple #[JX,b]) w:=by
 have c0:w.cell? ⟨g,0,none⟩=some (.int .i64 0):=hb.at 0 _ rfl
 have c1:w.cell? ⟨g,1,none⟩=some (.int .i64 0):=hb.at 1 _ rfl
 have c2:w.cell? ⟨g,2,none⟩=some (.int .i64 1):=hb.at 2 _ rfl
 have c3:w.cell? ⟨g,3,none⟩=some (.int .i64 0):=hb.at 3 _ rfl
 have c4:w.cell? ⟨g,4,none⟩=some (.int .i64 8):=hb.at 4 _ rfl
 have c5:w.cell? ⟨g,5,none⟩=some (.int .i64 1):=hb.at 5 _ rfl
 have c6:w.cell? ⟨g,6,none⟩=some (.int .i64 2):=hb.at 6 _ rfl
 have c7:w.cell? ⟨g,7,none⟩=some (.int .i64 3):=hb.at 7 _ rfl
 have c8:w.cell? ⟨g,8,none⟩=some (.int .i64 4):=hb.at 8 _ rfl
 have c9:w.cell? ⟨g,9,none⟩=some (.int .i64 7):=hb.at 9 _ rfl
 have c10:w.cell? ⟨g,10,none⟩=some (.int .i64 5):=hb.at 10 _ rfl
 simp [results,hres,h1,h2,go_sem,JX,c0,c1,c2,c3,c4,c5,c6,c7,c8,c9,c10]
set_option maxRecDepth 100000 in
theorem Qh (hS:∀ b,S b→b<w.heap.size) (h:Am w S a bs) (hl:bs.length≤140737488355328) (hs:Xr bs) :
 Calls Tryz.prog 130 #[.pointer (some ⟨a,0,none⟩)] w fun e w'=>e=.returned (.tuple #[JX,.slice none 0 0])∧Below w.heap.size w w':=by
 have hr:=AL.new w #[.int .i64 0,.int .i64 0,.int .i64 0,.int .i64 0,.int .i64 0,.int .i64 0,.int .i64 0,.int .i64 0,.int .i64 0,.int .i64 0,.int .i64 0] 59
 have hB1:Below w.heap.size w (w.alloc (.cells #[.int .i64 0,.int .i64 0,.int .i64 0,.int .i64 0,.int .i64 0,.int .i64 0,.int .i64 0,.int .i64 0,.int .i64 0,.int .i64 0,.int .i64 0] 59)):=(Below.refl _ _).alloc (Nat.le_refl _) _
 have ZI:Hid (∀ W,Below w.heap.size w W→Calls Tryz.prog 19 #[.pointer (some ⟨a,0,none⟩)] W fun e w'=>e=.returned (.tuple #[.agg #[.int .i64 0,.int .i64 0,.int .i64 1,.int .i64 0,.int .i64 8,.int .i64 1,.int .i64 2,.int .i64 3,.int .i64 4,.int .i64 7,.int .i64 5],.nilIface])∧Below W.heap.size W w'):=fun W hB=>Xt (fun b hb=>Nat.lt_of_lt_of_le (hS b hb) hB.size) (h.below hB hS) hl hs
 clear h hs
 go_enter Tryz.func130,Tryz.ntmps130
 go_upto_region 1 with fail
 generalize w.alloc (.cells #[.int .i64 0,.int .i64 0,.int .i64 0,.int .i64 0,.int .i64 0,.int .i64 0,.int .i64 0,.int .i64 0,.int .i64 0,.int .i64 0,.int .i64 0] 59)=w1 at *
 have ko:=qh (ZI.out w1 hB1)
 have HR:=qh hr
 have HB1:=qh hB1
 clear hr hB1 ZI
 go_upto_region 2 with (go_at_call 19;(with_reducible refine ko.out.mono ?_);rintro e w2 ⟨rfl,hB⟩;have HB2:=qh hB;clear hB)
 have hb3:=AL.new w2 #[.int .i64 0,.int .i64 0,.int .i64 1,.int .i64 0,.int .i64 8,.int .i64 1,.int .i64 2,.int .i64 3,.int .i64 4,.int .i64 7,.int .i64 5] 59
 have hB3:Below w2.heap.size w2 (w2.alloc (.cells #[.int .i64 0,.int .i64 0,.int .i64 1,.int .i64 0,.int .i64 8,.int .i64 1,.int .i64 2,.int .i64 3,.int .i64 4,.int .i64 7,.int .i64 5] 59)):=(Below.refl _ _).alloc (Nat.le_refl _) _
 have hr2:=HR.out.below HB2.out HR.out.lt
 have hr3:=hr2.below hB3 hr2.lt
 generalize w2.alloc (.cells #[.int .i64 0,.int .i64 0,.int .i64 1,.int .i64 0,.int .i64 8,.int .i64 1,.int .i64 2,.int .i64 3,.int .i64 4,.int .i64 7,.int .i64 5] 59)=w3 at *
 have h02:=HB1.out.trans (HB2.out.mono HB1.out.size)
 have HB3:=qh (h02.trans (hB3.mono h02.size))
 obtain ⟨y0,y1,y2,y3,y4,y5,y6,y7,y8,y9,YB⟩:w3.cell? ⟨w2.heap.size,0,none⟩=some (.int .i64 0)∧w3.cell? ⟨w2.heap.size,1,none⟩=some (.int .i64 0)∧w3.cell? ⟨w2.heap.size,2,none⟩=some (.int .i64 1)∧w3.cell? ⟨w2.heap.size,3,none⟩=some (.int .i64 0)∧w3.cell? ⟨w2.heap.size,4,none⟩=some (.int .i64 8)∧w3.cell? ⟨w2.heap.size,5,none⟩=some (.int .i64 1)∧w3.cell? ⟨w2.heap.size,6,none⟩=some (.int .i64 2)∧w3.cell? ⟨w2.heap.size,7,none⟩=some (.int .i64 3)∧w3.cell? ⟨w2.heap.size,8,none⟩=some (.int .i64 4)∧w3.cell? ⟨w2.heap.size,9,none⟩=some (.int .i64 7)∧w3.cell? ⟨w2.heap.size,10,none⟩=some (.int .i64 5):=⟨hb3.at 0 _ rfl,hb3.at 1 _ rfl,hb3.at 2 _ rfl,hb3.at 3 _ rfl,hb3.at 4 _ rfl,hb3.at 5 _ rfl,hb3.at 6 _ rfl,hb3.at 7 _ rfl,hb3.at 8 _ rfl,hb3.at 9 _ rfl,hb3.at 10 _ rfl⟩
 obtain ⟨r0,r1,r2,r3,r4,r5,r6,r7,r8,r9,Kt⟩:w3.cell? ⟨w.heap.size,0,none⟩=some (.int .i64 0)∧w3.cell? ⟨w.heap.size,1,none⟩=some (.int .i64 0)∧w3.cell? ⟨w.heap.size,2,none⟩=some (.int .i64 0)∧w3.cell? ⟨w.heap.size,3,none⟩=some (.int .i64 0)∧w3.cell? ⟨w.heap.size,4,none⟩=some (.int .i64 0)∧w3.cell? ⟨w.heap.size,5,none⟩=some (.int .i64 0)∧w3.cell? ⟨w.heap.size,6,none⟩=some (.int .i64 0)∧w3.cell? ⟨w.heap.size,7,none⟩=some (.int .i64 0)∧w3.cell? ⟨w.heap.size,8,none⟩=some (.int .i64 0)∧w3.cell? ⟨w.heap.size,9,none⟩=some (.int .i64 0)∧w3.cell? ⟨w.heap.size,10,none⟩=some (.int .i64 0):=⟨hr3.at 0 _ rfl,hr3.at 1 _ rfl,hr3.at 2 _ rfl,hr3.at 3 _ rfl,hr3.at 4 _ rfl,hr3.at 5 _ rfl,hr3.at 6 _ rfl,hr3.at 7 _ rfl,hr3.at 8 _ rfl,hr3.at 9 _ rfl,hr3.at 10 _ rfl⟩
 have f0:=hr3.free 0
 have f1:=hr3.free 1
 have f2:=hr3.free 2
 have f3:=hr3.free 3
 have f4:=hr3.free 4
 have f5:=hr3.free 5
 have f6:=hr3.free 6
 have f7:=hr3.free 7
 have f8:=hr3.free 8
 have f9:=hr3.free 9
 have f10:=hr3.free 10
 have HR3:=qh hr3
 clear hb3 hB3 hr2 hr3 h02
 go_wp2_with fail
 have hr3:=HR3.out
 have Ey:AL (((((((((((w3.setCell ⟨w.heap.size,0,none⟩ (.int .i64 0)).setCell ⟨w.heap.size,1,none⟩ (.int .i64 0)).setCell ⟨w.heap.size,2,none⟩ (.int .i64 1)).setCell ⟨w.heap.size,3,none⟩ (.int .i64 0)).setCell ⟨w.heap.size,4,none⟩ (.int .i64 8)).setCell ⟨w.heap.size,5,none⟩ (.int .i64 1)).setCell ⟨w.heap.size,6,none⟩ (.int .i64 2)).setCell ⟨w.heap.size,7,none⟩ (.int .i64 3)).setCell ⟨w.heap.size,8,none⟩ (.int .i64 4)).setCell ⟨w.heap.size,9,none⟩ (.int .i64 7)).setCell ⟨w.heap.size,10,none⟩ (.int .i64 5)) w.heap.size P8 59:=(((((((((((hr3.set 0 (.int .i64 0)).set 1 (.int .i64 0)).set 2 (.int .i64 1)).set 3 (.int .i64 0)).set 4 (.int .i64 8)).set 5 (.int .i64 1)).set 6 (.int .i64 2)).set 7 (.int .i64 3)).set 8 (.int .i64 4)).set 9 (.int .i64 7)).set 10 (.int .i64 5))
 have Kr:Below w.heap.size w (((((((((((w3.setCell ⟨w.heap.size,0,none⟩ (.int .i64 0)).setCell ⟨w.heap.size,1,none⟩ (.int .i64 0)).setCell ⟨w.heap.size,2,none⟩ (.int .i64 1)).setCell ⟨w.heap.size,3,none⟩ (.int .i64 0)).setCell ⟨w.heap.size,4,none⟩ (.int .i64 8)).setCell ⟨w.heap.size,5,none⟩ (.int .i64 1)).setCell ⟨w.heap.size,6,none⟩ (.int .i64 2)).setCell ⟨w.heap.size,7,none⟩ (.int .i64 3)).setCell ⟨w.heap.size,8,none⟩ (.int .i64 4)).setCell ⟨w.heap.size,9,none⟩ (.int .i64 7)).setCell ⟨w.heap.size,10,none⟩ (.int .i64 5)):=(((((((((((HB3.out.setCell (p:=⟨w.heap.size,0,none⟩) (Nat.le_refl _) (.int .i64 0)).setCell (p:=⟨w.heap.size,1,none⟩) (Nat.le_refl _) (.int .i64 0)).setCell (p:=⟨w.heap.size,2,none⟩) (Nat.le_refl _) (.int .i64 1)).setCell (p:=⟨w.heap.size,3,none⟩) (Nat.le_refl _) (.int .i64 0)).setCell (p:=⟨w.heap.size,4,none⟩) (Nat.le_refl _) (.int .i64 8)).setCell (p:=⟨w.heap.size,5,none⟩) (Nat.le_refl _) (.int .i64 1)).setCell (p:=⟨w.heap.size,6,none⟩) (Nat.le_refl _) (.int .i64 2)).setCell (p:=⟨w.heap.size,7,none⟩) (Nat.le_refl _) (.int .i64 3)).setCell (p:=⟨w.heap.size,8,none⟩) (Nat.le_refl _) (.int .i64 4)).setCell (p:=⟨w.heap.size,9,none⟩) (Nat.le_refl _) (.int .i64 7)).setCell (p:=⟨w.heap.size,10,none⟩) (Nat.le_refl _) (.int .i64 5))
 generalize (((((((((((w3.setCell ⟨w.heap.size,0,none⟩ (.int .i64 0)).setCell ⟨w.heap.size,1,none⟩ (.int .i64 0)).setCell ⟨w.heap.size,2,none⟩ (.int .i64 1)).setCell ⟨w.heap.size,3,none⟩ (.int .i64 0)).setCell ⟨w.heap.size,4,none⟩ (.int .i64 8)).setCell ⟨w.heap.size,5,none⟩ (.int .i64 1)).setCell ⟨w.heap.size,6,none⟩ (.int .i64 2)).setCell ⟨w.heap.size,7,none⟩ (.int .i64 3)).setCell ⟨w.heap.size,8,none⟩ (.int .i64 4)).setCell ⟨w.heap.size,9,none⟩ (.int .i64 7)).setCell ⟨w.heap.size,10,none⟩ (.int .i64 5))=w9 at *
 exact bodyPost_ret (Ot Tryz.results130 rfl rfl Ey) rfl ⟨rfl,Kr⟩
set_option maxRecDepth 100000 in
theorem Sv (hS:∀ b,S b→b<w.heap.size) (h:Am w S a bs) (hl:bs.length≤140737488355328) (hf:fuel≤9999999) (he:DC bs 4 5 fuel) (hi:DC bs 3 4 fuel) :
 Calls Tryz.prog 134 #[.pointer (some ⟨a,0,none⟩),.agg #[.int .i64 0,.int .i64 0,.int .i64 1,.int .i64 0,.int .i64 8,.int .i64 1,.int .i64 2,.int .i64 3,.int .i64 4,.int .i64 7,.int .i64 5],.int .i64 fuel] w fun e w'=>e=.returned (.tuple #[.slice none 0 0,.slice none 0 0])∧Below w.heap.size w w':=by
 have hx:=AL.new w #[.int .i64 0,.int .i64 0,.int .i64 1,.int .i64 0,.int .i64 8,.int .i64 1,.int .i64 2,.int .i64 3,.int .i64 4,.int .i64 7,.int .i64 5] 59
 have hB1:Below w.heap.size w (w.alloc (.cells #[.int .i64 0,.int .i64 0,.int .i64 1,.int .i64 0,.int .i64 8,.int .i64 1,.int .i64 2,.int .i64 3,.int .i64 4,.int .i64 7,.int .i64 5] 59)):=(Below.refl _ _).alloc (Nat.le_refl _) _
 have HC:=qh (Sq 3 4 fuel (fun b hb=>Nat.lt_of_lt_of_le (hS b hb) hB1.size) (h.below hB1 hS) hl hf he hi)
 clear h he hi
 go_enter Tryz.func134,Tryz.ntmps134
 go_upto_region 1 with fail
 generalize w.alloc (.cells #[.int .i64 0,.int .i64 0,.int .i64 1,.int .i64 0,.int .i64 8,.int .i64 1,.int .i64 2,.int .i64 3,.int .i64 4,.int .i64 7,.int .i64 5] 59)=w1 at *
 obtain ⟨x3,x7,x8⟩:w1.cell? ⟨w.heap.size,3,none⟩=some (.int .i64 0)∧w1.cell? ⟨w.heap.size,7,none⟩=some (.int .i64 3)∧w1.cell? ⟨w.heap.size,8,none⟩=some (.int .i64 4):=⟨hx.at 3 _ rfl,hx.at 7 _ rfl,hx.at 8 _ rfl⟩
 clear hx
 go_wp2_with (go_at_call 175;(with_reducible refine HC.out.mono ?_);rintro e w2 ⟨rfl,hB⟩)
 go_ret2
 exact ⟨rfl,hB1.trans (hB.mono hB1.size)⟩
set_option maxRecDepth 100000 in
theorem Sw (hS:∀ b,S b→b<w.heap.size) (h:Am w S a bs) (hl:bs.length≤140737488355328) (hf:fuel≤9999999) (he:DC bs 5 5 fuel) (hi:Lh bs 7 6 0 8) (hb:Ga bs 6) (hm:AC (AO bs 6) 0 4=8) (hx:∀ x∈bitsOf (AO bs 6),0<x∧x<3) :
 Calls Tryz.prog 136 #[.pointer (some ⟨a,0,none⟩),.agg #[.int .i64 0,.int .i64 0,.int .i64 1,.int .i64 0,.int .i64 8,.int .i64 1,.int .i64 2,.int .i64 3,.int .i64 4,.int .i64 7,.int .i64 5],.int .i64 fuel] w fun e w'=>(∃ A c,e=.returned (.tuple #[.slice A 8 c,.slice none 0 0])∧w'.ownsRow w.heap.size 3 1 (.slice A 8 c) 8 (AA encI (bitsOf (AO bs 6))))∧Below w.heap.size w w':=by
 have hbx:=AL.new w #[.int .i64 0,.int .i64 0,.int .i64 1,.int .i64 0,.int .i64 8,.int .i64 1,.int .i64 2,.int .i64 3,.int .i64 4,.int .i64 7,.int .i64 5] 59
 have hB1:Below w.heap.size w (w.alloc (.cells #[.int .i64 0,.int .i64 0,.int .i64 1,.int .i64 0,.int .i64 8,.int .i64 1,.int .i64 2,.int .i64 3,.int .i64 4,.int .i64 7,.int .i64 5] 59)):=(Below.refl _ _).alloc (Nat.le_refl _) _
 have HC:Hid (Calls Tryz.prog 176 #[.pointer (some ⟨a,0,none⟩),.int .i64 7,.int .i64 5,.int .i64 8,.int .i64 fuel] (w.alloc (.cells #[.int .i64 0,.int .i64 0,.int .i64 1,.int .i64 0,.int .i64 8,.int .i64 1,.int .i64 2,.int .i64 3,.int .i64 4,.int .i64 7,.int .i64 5] 59)) fun e w'=>(∃ A c,e=.returned (.tuple #[.slice A 8 c,.nilIface])∧w'.ownsRow (w.alloc (.cells #[.int .i64 0,.int .i64 0,.int .i64 1,.int .i64 0,.int .i64 8,.int .i64 1,.int .i64 2,.int .i64 3,.int .i64 4,.int .i64 7,.int .i64 5] 59)).heap.size 3 1 (.slice A 8 c) 8 (AA encI (bitsOf (AO bs 6))))∧Below (w.alloc (.cells #[.int .i64 0,.int .i64 0,.int .i64 1,.int .i64 0,.int .i64 8,.int .i64 1,.int .i64 2,.int .i64 3,.int .i64 4,.int .i64 7,.int .i64 5] 59)).heap.size (w.alloc (.cells #[.int .i64 0,.int .i64 0,.int .i64 1,.int .i64 0,.int .i64 8,.int .i64 1,.int .i64 2,.int .i64 3,.int .i64 4,.int .i64 7,.int .i64 5] 59)) w'):=Sr 7 6 5 fuel (fun b hb=>Nat.lt_of_lt_of_le (hS b hb) hB1.size) (h.below hB1 hS) hl hf he hi hb hm hx
 generalize bitsOf (AO bs 6)=l at *
 clear h he hi hb hm hx
 go_enter Tryz.func136,Tryz.ntmps136
 go_upto_region 1 with fail
 generalize w.alloc (.cells #[.int .i64 0,.int .i64 0,.int .i64 1,.int .i64 0,.int .i64 8,.int .i64 1,.int .i64 2,.int .i64 3,.int .i64 4,.int .i64 7,.int .i64 5] 59)=w1 at *
 obtain ⟨x4,x9,OH⟩:w1.cell? ⟨w.heap.size,4,none⟩=some (.int .i64 8)∧w1.cell? ⟨w.heap.size,9,none⟩=some (.int .i64 7)∧w1.cell? ⟨w.heap.size,10,none⟩=some (.int .i64 5):=⟨hbx.at 4 _ rfl,hbx.at 9 _ rfl,hbx.at 10 _ rfl⟩
 clear hbx
 go_wp2_with (go_at_call 176;(with_reducible refine HC.out.mono ?_);rintro e w2 ⟨⟨A,c,rfl,ho⟩,hB⟩;have HO:=qh (ho.mono hB1.size);clear ho)
 go_ret2
 exact ⟨⟨A,c,rfl,HO.out⟩,hB1.trans (hB.mono hB1.size)⟩
end
end
end Go.Proofs.YthblbddmcdnllaaGreatDoor
