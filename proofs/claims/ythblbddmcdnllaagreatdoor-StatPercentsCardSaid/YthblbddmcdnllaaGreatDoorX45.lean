/- A part of the proof: WCheck. -/
import Derived.Test.YthblbddmcdnllaaGreatDoorX44
import Derived.Test.YthblbddmcdnllaaGreatDoorX42
import Derived.Test.YthblbddmcdnllaaGreatDoorY1
set_option maxHeartbeats 6400000
set_option linter.unusedVariables false
set_option linter.unusedSimpArgs false
namespace Go.Proofs.YthblbddmcdnllaaGreatDoor
section
open Go.RowKit
attribute [local go_sem] Oper.semAt_some
def fZ:Array Value:=#[.int .i64 0,.int .i64 0,.int .i64 0,.int .i64 0,.int .i64 0,.int .i64 0,.int .i64 0,.int .i64 0,.int .i64 0,.int .i64 0,.int .i64 0,.int .i64 0,.int .i64 0,.int .i64 0,.int .i64 0,.slice none 0 0,.slice none 0 0,.slice none 0 0,.slice none 0 0]
def fB (u:Int) (d m:Value):Array Value:=#[.int .i64 0,.int .i64 0,.int .i64 1,.int .i64 0,.int .i64 8,.int .i64 1,.int .i64 2,.int .i64 3,.int .i64 4,.int .i64 7,.int .i64 5,.int .i64 0,.int .i64 0,.int .i64 u,.int .i64 0,.slice none 0 0,d,m,.slice none 0 0]
structure ER (bs:List UInt8) (fuel:Int):Prop where
 len:bs.length≤140737488355328
 Tp:fuel≤9999999
 vN:Xr bs
 img:Rp bs
 t1:DC bs 1 1 fuel
 t2:DC bs 2 3 fuel
 t3:DC bs 3 4 fuel
 t4:DC bs 4 5 fuel
 t5:DC bs 5 5 fuel
 idx:Lh bs 7 6 0 8
 bits:Ga bs 6
 cnt:AC (AO bs 6) 0 4=8
 ones:bitsOf (AO bs 6)=Dr 6
theorem ER.pos {bs:List UInt8} {fuel:Int} (h:ER bs fuel):∀ x∈bitsOf (AO bs 6),0<x∧x<3:=by
 rw [h.ones]
 decide
def fP (p0 p1 p2 p3 p4 d m:Value):Array Value:=#[.int .i64 0,.int .i64 0,.int .i64 1,.int .i64 0,.int .i64 8,.int .i64 1,.int .i64 2,.int .i64 3,.int .i64 4,.int .i64 7,.int .i64 5,p0,p1,p2,p3,p4,d,m,.slice none 0 0]
theorem KF {w:World} {g:Nat} {v:Value} {T:TypeId} (h:AL w g #[v] T):w.cell? ⟨g,0,none⟩=some v:=h.at 0 _ rfl
theorem MM {w:World} {g:Nat} {p0 p1 p2 p3 p4 d m:Value} {T:TypeId} (h:AL w g (fP p0 p1 p2 p3 p4 d m) T):w.cell? ⟨g,0,none⟩=some (.int .i64 0)∧w.cell? ⟨g,1,none⟩=some (.int .i64 0)∧w.cell? ⟨g,2,none⟩=some (.int .i64 1)∧w.cell? ⟨g,3,none⟩=some (.int .i64 0)∧w.cell? ⟨g,4,none⟩=some (.int .i64 8)∧w.cell? ⟨g,5,none⟩=some (.int .i64 1)∧w.cell? ⟨g,6,none⟩=some (.int .i64 2)∧w.cell? ⟨g,7,none⟩=some (.int .i64 3)∧w.cell? ⟨g,8,none⟩=some (.int .i64 4)∧w.cell? ⟨g,9,none⟩=some (.int .i64 7)∧w.cell? ⟨g,10,none⟩=some (.int .i64 5):=⟨h.at 0 _ rfl,h.at 1 _ rfl,h.at 2 _ rfl,h.at 3 _ rfl,h.at 4 _ rfl,h.at 5 _ rfl,h.at 6 _ rfl,h.at 7 _ rfl,h.at 8 _ rfl,h.at 9 _ rfl,h.at 10 _ rfl⟩
def Ku (a gm gu gf:Nat) (fuel:Int) (w':World):Prop:=AL w' gm #[.pointer (some ⟨a,0,none⟩)] 25∧AL w' gu #[.int .i64 fuel] 3∧∃ p0 p1 p2 p3 p4 d m,AL w' gf (fP p0 p1 p2 p3 p4 d m) 102
theorem Ku.pool {a gm gu gf:Nat} {fuel:Int} {w':World} (u0 u1 u2 u3 u4:Value) (hne:gm≠gf∧gu≠gf) (h:Ku a gm gu gf fuel w'):Ku a gm gu gf fuel (((((w'.setCell ⟨gf,11,none⟩ u0).setCell ⟨gf,12,none⟩ u1).setCell ⟨gf,13,none⟩ u2).setCell ⟨gf,14,none⟩ u3).setCell ⟨gf,15,none⟩ u4):=by
 obtain ⟨h1,h2,p0,p1,p2,p3,p4,d,m,h3⟩:=h
 have e1:gf≠gm:=fun e=>hne.1 e.symm
 have e2:gf≠gu:=fun e=>hne.2 e.symm
 exact ⟨((((h1.far e1 _ _).far e1 _ _).far e1 _ _).far e1 _ _).far e1 _ _,((((h2.far e2 _ _).far e2 _ _).far e2 _ _).far e2 _ _).far e2 _ _,u0,u1,u2,u3,u4,d,m,((((h3.set 11 u0).set 12 u1).set 13 u2).set 14 u3).set 15 u4⟩
theorem Ku.data {a gm gu gf:Nat} {fuel:Int} {w':World} (u:Value) (hne:gm≠gf∧gu≠gf) (h:Ku a gm gu gf fuel w'):Ku a gm gu gf fuel (w'.setCell ⟨gf,16,none⟩ u):=by
 obtain ⟨h1,h2,p0,p1,p2,p3,p4,d,m,h3⟩:=h
 exact ⟨h1.far (fun e=>hne.1 e.symm) _ _,h2.far (fun e=>hne.2 e.symm) _ _,p0,p1,p2,p3,p4,u,m,h3.set 16 u⟩
theorem Ku.nA {a gm gu gf:Nat} {fuel:Int} {w':World} (u:Value) (hne:gm≠gf∧gu≠gf) (h:Ku a gm gu gf fuel w'):Ku a gm gu gf fuel (w'.setCell ⟨gf,17,none⟩ u):=by
 obtain ⟨h1,h2,p0,p1,p2,p3,p4,d,m,h3⟩:=h
 exact ⟨h1.far (fun e=>hne.1 e.symm) _ _,h2.far (fun e=>hne.2 e.symm) _ _,p0,p1,p2,p3,p4,d,u,h3.set 17 u⟩
section
variable {w:World} {S:Nat→Prop} {a gm gu gf:Nat} {bs:List UInt8} {fuel:Int}
set_option maxRecDepth 100000 in
theorem gN (hS:∀ b,S b→b<w.heap.size) (h:Am w S a bs) (ok:ER bs fuel) (hf:AL w gf fZ 102) (hm:AL w gm #[.pointer (some ⟨a,0,none⟩)] 25) :
 Calls Tryz.prog 129 #[.pointer (some ⟨gf,0,none⟩),.pointer (some ⟨gm,0,none⟩)] w fun e w'=>e=.returned (.slice none 0 0)∧AL w' gf (fB 0 (.slice none 0 0) (.slice none 0 0)) 102∧Touch (fun y=>y=gf) w w':=by
 have HS:Hid (Calls Tryz.prog 130 #[.pointer (some ⟨a,0,none⟩)] w fun e w'=>e=.returned (.tuple #[.agg #[.int .i64 0,.int .i64 0,.int .i64 1,.int .i64 0,.int .i64 8,.int .i64 1,.int .i64 2,.int .i64 3,.int .i64 4,.int .i64 7,.int .i64 5],.slice none 0 0])∧Below w.heap.size w w'):=Qh hS h ok.len ok.vN
 have HF:=qh hf
 have x0:w.cell? ⟨gm,0,none⟩=some (.pointer (some ⟨a,0,none⟩)):=hm.at 0 _ rfl
 clear h ok hf hm
 go_enter Tryz.func129,Tryz.ntmps129
 go_wp2_with (go_at_call 130;(with_reducible refine HS.out.mono ?_);rintro e w2 ⟨rfl,hB⟩;have hf2:=HF.out.below hB HF.out.lt;have z0:w2.cell? ⟨gf,0,none⟩=some (.int .i64 0):=hf2.at 0 _ rfl;have z1:w2.cell? ⟨gf,1,none⟩=some (.int .i64 0):=hf2.at 1 _ rfl;have z2:w2.cell? ⟨gf,2,none⟩=some (.int .i64 0):=hf2.at 2 _ rfl;have z3:w2.cell? ⟨gf,3,none⟩=some (.int .i64 0):=hf2.at 3 _ rfl;have z4:w2.cell? ⟨gf,4,none⟩=some (.int .i64 0):=hf2.at 4 _ rfl;have z5:w2.cell? ⟨gf,5,none⟩=some (.int .i64 0):=hf2.at 5 _ rfl;have z6:w2.cell? ⟨gf,6,none⟩=some (.int .i64 0):=hf2.at 6 _ rfl;have z7:w2.cell? ⟨gf,7,none⟩=some (.int .i64 0):=hf2.at 7 _ rfl;have z8:w2.cell? ⟨gf,8,none⟩=some (.int .i64 0):=hf2.at 8 _ rfl;have z9:w2.cell? ⟨gf,9,none⟩=some (.int .i64 0):=hf2.at 9 _ rfl;have YC:w2.cell? ⟨gf,10,none⟩=some (.int .i64 0):=hf2.at 10 _ rfl;have f0:=hf2.free 0;have f1:=hf2.free 1;have f2:=hf2.free 2;have f3:=hf2.free 3;have f4:=hf2.free 4;have f5:=hf2.free 5;have f6:=hf2.free 6;have f7:=hf2.free 7;have f8:=hf2.free 8;have f9:=hf2.free 9;have f10:=hf2.free 10;have l0:=hf2.lt;have HB:=qh hB;have uK:=qh hf2;clear hB hf2)
 have Ey:AL (((((((((((w2.setCell ⟨gf,0,none⟩ (.int .i64 0)).setCell ⟨gf,1,none⟩ (.int .i64 0)).setCell ⟨gf,2,none⟩ (.int .i64 1)).setCell ⟨gf,3,none⟩ (.int .i64 0)).setCell ⟨gf,4,none⟩ (.int .i64 8)).setCell ⟨gf,5,none⟩ (.int .i64 1)).setCell ⟨gf,6,none⟩ (.int .i64 2)).setCell ⟨gf,7,none⟩ (.int .i64 3)).setCell ⟨gf,8,none⟩ (.int .i64 4)).setCell ⟨gf,9,none⟩ (.int .i64 7)).setCell ⟨gf,10,none⟩ (.int .i64 5)) gf (fB 0 (.slice none 0 0) (.slice none 0 0)) 102:=(((((((((((uK.out.set 0 (.int .i64 0)).set 1 (.int .i64 0)).set 2 (.int .i64 1)).set 3 (.int .i64 0)).set 4 (.int .i64 8)).set 5 (.int .i64 1)).set 6 (.int .i64 2)).set 7 (.int .i64 3)).set 8 (.int .i64 4)).set 9 (.int .i64 7)).set 10 (.int .i64 5))
 have OP:Touch (fun y=>y=gf) w2 (((((((((((w2.setCell ⟨gf,0,none⟩ (.int .i64 0)).setCell ⟨gf,1,none⟩ (.int .i64 0)).setCell ⟨gf,2,none⟩ (.int .i64 1)).setCell ⟨gf,3,none⟩ (.int .i64 0)).setCell ⟨gf,4,none⟩ (.int .i64 8)).setCell ⟨gf,5,none⟩ (.int .i64 1)).setCell ⟨gf,6,none⟩ (.int .i64 2)).setCell ⟨gf,7,none⟩ (.int .i64 3)).setCell ⟨gf,8,none⟩ (.int .i64 4)).setCell ⟨gf,9,none⟩ (.int .i64 7)).setCell ⟨gf,10,none⟩ (.int .i64 5)):=((((((((((((Touch.refl:Touch (fun y=>y=gf) w2 w2).trans (Touch.BZ (R:=fun y=>y=gf) (p:=⟨gf,0,none⟩) rfl)).trans (Touch.BZ (R:=fun y=>y=gf) (p:=⟨gf,1,none⟩) rfl)).trans (Touch.BZ (R:=fun y=>y=gf) (p:=⟨gf,2,none⟩) rfl)).trans (Touch.BZ (R:=fun y=>y=gf) (p:=⟨gf,3,none⟩) rfl)).trans (Touch.BZ (R:=fun y=>y=gf) (p:=⟨gf,4,none⟩) rfl)).trans (Touch.BZ (R:=fun y=>y=gf) (p:=⟨gf,5,none⟩) rfl)).trans (Touch.BZ (R:=fun y=>y=gf) (p:=⟨gf,6,none⟩) rfl)).trans (Touch.BZ (R:=fun y=>y=gf) (p:=⟨gf,7,none⟩) rfl)).trans (Touch.BZ (R:=fun y=>y=gf) (p:=⟨gf,8,none⟩) rfl)).trans (Touch.BZ (R:=fun y=>y=gf) (p:=⟨gf,9,none⟩) rfl)).trans (Touch.BZ (R:=fun y=>y=gf) (p:=⟨gf,10,none⟩) rfl))
 generalize (((((((((((w2.setCell ⟨gf,0,none⟩ (.int .i64 0)).setCell ⟨gf,1,none⟩ (.int .i64 0)).setCell ⟨gf,2,none⟩ (.int .i64 1)).setCell ⟨gf,3,none⟩ (.int .i64 0)).setCell ⟨gf,4,none⟩ (.int .i64 8)).setCell ⟨gf,5,none⟩ (.int .i64 1)).setCell ⟨gf,6,none⟩ (.int .i64 2)).setCell ⟨gf,7,none⟩ (.int .i64 3)).setCell ⟨gf,8,none⟩ (.int .i64 4)).setCell ⟨gf,9,none⟩ (.int .i64 7)).setCell ⟨gf,10,none⟩ (.int .i64 5))=w9 at *
 go_ret
 exact ⟨rfl,Ey,(Touch.of_below HB.out).trans OP⟩
set_option maxRecDepth 100000 in
theorem gP (hS:∀ b,S b→b<w.heap.size) (h:Am w S a bs) (ok:ER bs fuel) (hf:AL w gf (fB 0 (.slice none 0 0) (.slice none 0 0)) 102) (hm:AL w gm #[.pointer (some ⟨a,0,none⟩)] 25) (hu:AL w gu #[.int .i64 fuel] 3) (hne:gm≠gf∧gu≠gf) :
 Calls Tryz.prog 131 #[.pointer (some ⟨gf,0,none⟩),.pointer (some ⟨gm,0,none⟩),.pointer (some ⟨gu,0,none⟩)] w fun e w'=>e=.returned (.slice none 0 0)∧AL w' gf (fB 1 (.slice none 0 0) (.slice none 0 0)) 102∧Touch (fun y=>y=gf) w w':=by
 have HC:Hid (∀ W,Below w.heap.size w W→Calls Tryz.prog 132 #[.pointer (some ⟨a,0,none⟩),.agg #[.int .i64 0,.int .i64 0,.int .i64 1,.int .i64 0,.int .i64 8,.int .i64 1,.int .i64 2,.int .i64 3,.int .i64 4,.int .i64 7,.int .i64 5],.int .i64 fuel] W fun e w'=>e=.returned (.tuple #[.agg #[.int .i64 0,.int .i64 0,.int .i64 1,.int .i64 0,.slice none 0 0],.slice none 0 0])∧Below W.heap.size W w'):=fun W hB=>SH (fun b hb=>Nat.lt_of_lt_of_le (hS b hb) hB.size) (h.below hB hS) ok.len ok.Tp ok.t2 ok.t1
 have EP:Hid (gm≠gf∧gu≠gf):=hne
 have HF:=qh hf
 have HM:=qh hm
 have HU:=qh hu
 clear h ok hf hm hu hne
 go_enter Tryz.func131,Tryz.ntmps131
 go_upto_region 1 with fail
 have hk0:=(Below.refl w.heap.size w).drew
 have hS0:Ku a gm gu gf fuel w:=⟨HM.out,HU.out,_,_,_,_,_,_,_,HF.out⟩
 refine AJ (T:=fun _=>false) (S:=fun w'=>Ku a gm gu gf fuel w') (by kernel_rfl) (hS0) (fun hHeld=>?_)
 refine qs 0 6 hHeld ?_
 refine qf 1 7 rfl rfl hHeld (by intro w hSw;have m0:=KF hSw.1;go_simp;(try with_reducible rfl)) ?_
 refine qs 2 8 hHeld ?_
 refine qs 3 9 hHeld ?_
 refine qs 4 10 hHeld ?_
 refine qf 5 11 rfl rfl hHeld (by intro w hSw;obtain ⟨p0,p1,p2,p3,p4,pd,pm,hq⟩:=hSw.2.2;obtain ⟨s0,s1,s2,s3,s4,s5,s6,s7,s8,s9,s10⟩:=MM hq;go_simp;(try with_reducible rfl)) ?_
 refine qf 6 12 rfl rfl hHeld (by intro w hSw;have u0:=KF hSw.2.1;go_simp;(try with_reducible rfl)) ?_
 refine qo 7 fun K hK=>?_
 go_simp
 refine (HC.out _ hk0).mono ?_
 rintro e w3 ⟨rfl,hB⟩
 have hk3:=hk0.trans (hB.mono hk0.size)
 have nC:=HM.out.below hk3 HM.out.lt
 have hu3:=HU.out.below hk3 HU.out.lt
 have hf3:=HF.out.below hk3 HF.out.lt
 have z11:w3.cell? ⟨gf,11,none⟩=some (.int .i64 0):=hf3.at 11 _ rfl
 have f11:=hf3.free 11
 have z12:w3.cell? ⟨gf,12,none⟩=some (.int .i64 0):=hf3.at 12 _ rfl
 have f12:=hf3.free 12
 have z13:w3.cell? ⟨gf,13,none⟩=some (.int .i64 0):=hf3.at 13 _ rfl
 have f13:=hf3.free 13
 have z14:w3.cell? ⟨gf,14,none⟩=some (.int .i64 0):=hf3.at 14 _ rfl
 have f14:=hf3.free 14
 have z15:w3.cell? ⟨gf,15,none⟩=some (.slice none 0 0):=hf3.at 15 _ rfl
 have f15:=hf3.free 15
 have l3:=hf3.lt
 have hHeld:=(show Ku a gm gu gf fuel w3 from ⟨nC,hu3,_,_,_,_,_,_,_,hf3⟩)
 refine hK.out _ _ (fun _=>hHeld) (fun Cq=>?_)
 clear hK K Cq
 (try simp only [Act.put,qS])
 refine qs 8 5 hHeld ?_
 refine qs 9 14 hHeld ?_
 refine qs 10 15 hHeld ?_
 refine qs 11 16 hHeld ?_
 refine qs 12 17 hHeld ?_
 refine qo 13 fun K hK=>?_
 go_simp
 have BI:=(show Ku a gm gu gf fuel _ from Ku.pool (.int .i64 0) (.int .i64 0) (.int .i64 1) (.int .i64 0) (.slice none 0 0) EP.out hHeld)
 clear hHeld
 have hHeld:=BI
 clear BI
 refine hK.out _ _ (fun _=>hHeld) (fun Cq=>?_)
 clear hK K Cq
 (try simp only [Act.put,qS])
 refine qs 14 4 hHeld ?_
 refine qd ?_
 have Ey:AL (((((w3.setCell ⟨gf,11,none⟩ (.int .i64 0)).setCell ⟨gf,12,none⟩ (.int .i64 0)).setCell ⟨gf,13,none⟩ (.int .i64 1)).setCell ⟨gf,14,none⟩ (.int .i64 0)).setCell ⟨gf,15,none⟩ (.slice none 0 0)) gf (fB 1 (.slice none 0 0) (.slice none 0 0)) 102:=(((((hf3.set 11 (.int .i64 0)).set 12 (.int .i64 0)).set 13 (.int .i64 1)).set 14 (.int .i64 0)).set 15 (.slice none 0 0))
 have OP:Touch (fun y=>y=gf) w (((((w3.setCell ⟨gf,11,none⟩ (.int .i64 0)).setCell ⟨gf,12,none⟩ (.int .i64 0)).setCell ⟨gf,13,none⟩ (.int .i64 1)).setCell ⟨gf,14,none⟩ (.int .i64 0)).setCell ⟨gf,15,none⟩ (.slice none 0 0)):=(Touch.of_below hk3).trans ((((((Touch.refl:Touch (fun y=>y=gf) w3 w3).trans (Touch.BZ (R:=fun y=>y=gf) (p:=⟨gf,11,none⟩) rfl)).trans (Touch.BZ (R:=fun y=>y=gf) (p:=⟨gf,12,none⟩) rfl)).trans (Touch.BZ (R:=fun y=>y=gf) (p:=⟨gf,13,none⟩) rfl)).trans (Touch.BZ (R:=fun y=>y=gf) (p:=⟨gf,14,none⟩) rfl)).trans (Touch.BZ (R:=fun y=>y=gf) (p:=⟨gf,15,none⟩) rfl))
 clear z11 f11 z12 f12 z13 f13 z14 f14 z15 f15 l3 hHeld
 generalize (((((w3.setCell ⟨gf,11,none⟩ (.int .i64 0)).setCell ⟨gf,12,none⟩ (.int .i64 0)).setCell ⟨gf,13,none⟩ (.int .i64 1)).setCell ⟨gf,14,none⟩ (.int .i64 0)).setCell ⟨gf,15,none⟩ (.slice none 0 0))=w9 at *
 go_wp2_with fail
 go_ret
 exact ⟨rfl,Ey,OP⟩
set_option maxRecDepth 100000 in
theorem gQ (hS:∀ b,S b→b<w.heap.size) (h:Am w S a bs) (ok:ER bs fuel) (hf:AL w gf (fB 1 (.slice none 0 0) (.slice none 0 0)) 102) (hm:AL w gm #[.pointer (some ⟨a,0,none⟩)] 25) (hu:AL w gu #[.int .i64 fuel] 3) (hne:gm≠gf∧gu≠gf) :
 Calls Tryz.prog 133 #[.pointer (some ⟨gf,0,none⟩),.pointer (some ⟨gm,0,none⟩),.pointer (some ⟨gu,0,none⟩)] w fun e w'=>e=.returned (.slice none 0 0)∧AL w' gf (fB 1 (.slice none 0 0) (.slice none 0 0)) 102∧Touch (fun y=>y=gf) w w':=by
 have HC:Hid (∀ W,Below w.heap.size w W→Calls Tryz.prog 134 #[.pointer (some ⟨a,0,none⟩),.agg #[.int .i64 0,.int .i64 0,.int .i64 1,.int .i64 0,.int .i64 8,.int .i64 1,.int .i64 2,.int .i64 3,.int .i64 4,.int .i64 7,.int .i64 5],.int .i64 fuel] W fun e w'=>e=.returned (.tuple #[.slice none 0 0,.slice none 0 0])∧Below W.heap.size W w'):=fun W hB=>Sv (fun b hb=>Nat.lt_of_lt_of_le (hS b hb) hB.size) (h.below hB hS) ok.len ok.Tp ok.t4 ok.t3
 have EP:Hid (gm≠gf∧gu≠gf):=hne
 have HF:=qh hf
 have HM:=qh hm
 have HU:=qh hu
 clear h ok hf hm hu hne
 go_enter Tryz.func133,Tryz.ntmps133
 go_upto_region 1 with fail
 have hk0:=(Below.refl w.heap.size w).drew
 have hS0:Ku a gm gu gf fuel w:=⟨HM.out,HU.out,_,_,_,_,_,_,_,HF.out⟩
 refine AJ (T:=fun _=>false) (S:=fun w'=>Ku a gm gu gf fuel w') (by kernel_rfl) (hS0) (fun hHeld=>?_)
 refine qs 0 6 hHeld ?_
 refine qf 1 7 rfl rfl hHeld (by intro w hSw;have m0:=KF hSw.1;go_simp;(try with_reducible rfl)) ?_
 refine qs 2 8 hHeld ?_
 refine qs 3 9 hHeld ?_
 refine qs 4 10 hHeld ?_
 refine qf 5 11 rfl rfl hHeld (by intro w hSw;obtain ⟨p0,p1,p2,p3,p4,pd,pm,hq⟩:=hSw.2.2;obtain ⟨s0,s1,s2,s3,s4,s5,s6,s7,s8,s9,s10⟩:=MM hq;go_simp;(try with_reducible rfl)) ?_
 refine qf 6 12 rfl rfl hHeld (by intro w hSw;have u0:=KF hSw.2.1;go_simp;(try with_reducible rfl)) ?_
 refine qo 7 fun K hK=>?_
 go_simp
 refine (HC.out _ hk0).mono ?_
 rintro e w3 ⟨rfl,hB⟩
 have hk3:=hk0.trans (hB.mono hk0.size)
 have nC:=HM.out.below hk3 HM.out.lt
 have hu3:=HU.out.below hk3 HU.out.lt
 have hf3:=HF.out.below hk3 HF.out.lt
 have z16:w3.cell? ⟨gf,16,none⟩=some (.slice none 0 0):=hf3.at 16 _ rfl
 have f16:=hf3.free 16
 have l3:=hf3.lt
 have hHeld:=(show Ku a gm gu gf fuel w3 from ⟨nC,hu3,_,_,_,_,_,_,_,hf3⟩)
 refine hK.out _ _ (fun _=>hHeld) (fun Cq=>?_)
 clear hK K Cq
 (try simp only [Act.put,qS])
 refine qs 8 5 hHeld ?_
 refine qs 9 14 hHeld ?_
 refine qs 10 15 hHeld ?_
 refine qs 11 16 hHeld ?_
 refine qs 12 17 hHeld ?_
 refine qo 13 fun K hK=>?_
 go_simp
 have BI:=(show Ku a gm gu gf fuel _ from Ku.data (.slice none 0 0) EP.out hHeld)
 clear hHeld
 have hHeld:=BI
 clear BI
 refine hK.out _ _ (fun _=>hHeld) (fun Cq=>?_)
 clear hK K Cq
 (try simp only [Act.put,qS])
 refine qs 14 4 hHeld ?_
 refine qd ?_
 have Ey:AL (w3.setCell ⟨gf,16,none⟩ (.slice none 0 0)) gf (fB 1 (.slice none 0 0) (.slice none 0 0)) 102:=(hf3.set 16 (.slice none 0 0))
 have OP:Touch (fun y=>y=gf) w (w3.setCell ⟨gf,16,none⟩ (.slice none 0 0)):=(Touch.of_below hk3).trans ((Touch.refl:Touch (fun y=>y=gf) w3 w3).trans (Touch.BZ (R:=fun y=>y=gf) (p:=⟨gf,16,none⟩) rfl))
 clear z16 f16 l3 hHeld
 generalize (w3.setCell ⟨gf,16,none⟩ (.slice none 0 0))=w9 at *
 go_wp2_with fail
 go_ret
 exact ⟨rfl,Ey,OP⟩
set_option maxRecDepth 100000 in
theorem gT (hS:∀ b,S b→b<w.heap.size) (h:Am w S a bs) (ok:ER bs fuel) (hf:AL w gf (fB 1 (.slice none 0 0) (.slice none 0 0)) 102) (hm:AL w gm #[.pointer (some ⟨a,0,none⟩)] 25) (hu:AL w gu #[.int .i64 fuel] 3) (hne:gm≠gf∧gu≠gf) :
 Calls Tryz.prog 135 #[.pointer (some ⟨gf,0,none⟩),.pointer (some ⟨gm,0,none⟩),.pointer (some ⟨gu,0,none⟩)] w fun e w'=>(∃ A c,e=.returned (.slice none 0 0)∧AL w' gf (fB 1 (.slice none 0 0) (.slice A 8 c)) 102∧w'.ownsRow w.heap.size 3 1 (.slice A 8 c) 8 (AA encI (Dr 6)))∧Touch (fun y=>y=gf) w w':=by
 have HC:Hid (∀ W,Below w.heap.size w W→Calls Tryz.prog 136 #[.pointer (some ⟨a,0,none⟩),.agg #[.int .i64 0,.int .i64 0,.int .i64 1,.int .i64 0,.int .i64 8,.int .i64 1,.int .i64 2,.int .i64 3,.int .i64 4,.int .i64 7,.int .i64 5],.int .i64 fuel] W fun e w'=>(∃ A c,e=.returned (.tuple #[.slice A 8 c,.slice none 0 0])∧w'.ownsRow W.heap.size 3 1 (.slice A 8 c) 8 (AA encI (bitsOf (AO bs 6))))∧Below W.heap.size W w'):=fun W hB=>Sw (fun b hb=>Nat.lt_of_lt_of_le (hS b hb) hB.size) (h.below hB hS) ok.len ok.Tp ok.t5 ok.idx ok.bits ok.cnt ok.pos
 have EP:Hid (gm≠gf∧gu≠gf):=hne
 have HF:=qh hf
 have HM:=qh hm
 have HU:=qh hu
 have oQ:=qh ok.ones
 clear h ok hf hm hu hne
 go_enter Tryz.func135,Tryz.ntmps135
 go_upto_region 1 with fail
 have hk0:=(Below.refl w.heap.size w).drew
 have hS0:Ku a gm gu gf fuel w:=⟨HM.out,HU.out,_,_,_,_,_,_,_,HF.out⟩
 refine AJ (T:=fun _=>false) (S:=fun w'=>Ku a gm gu gf fuel w') (by kernel_rfl) (hS0) (fun hHeld=>?_)
 refine qs 0 6 hHeld ?_
 refine qf 1 7 rfl rfl hHeld (by intro w hSw;have m0:=KF hSw.1;go_simp;(try with_reducible rfl)) ?_
 refine qs 2 8 hHeld ?_
 refine qs 3 9 hHeld ?_
 refine qs 4 10 hHeld ?_
 refine qf 5 11 rfl rfl hHeld (by intro w hSw;obtain ⟨p0,p1,p2,p3,p4,pd,pm,hq⟩:=hSw.2.2;obtain ⟨s0,s1,s2,s3,s4,s5,s6,s7,s8,s9,s10⟩:=MM hq;go_simp;(try with_reducible rfl)) ?_
 refine qf 6 12 rfl rfl hHeld (by intro w hSw;have u0:=KF hSw.2.1;go_simp;(try with_reducible rfl)) ?_
 refine qo 7 fun K hK=>?_
 go_simp
 refine (HC.out _ hk0).mono ?_
 rintro e w3 ⟨⟨A8,c8,rfl,Td⟩,hB⟩
 rw [oQ.out] at Td
 have hor:w3.ownsRow w.heap.size 3 1 (.slice A8 8 c8) 8 (AA encI (Dr 6)):=Td
 clear Td
 have hk3:=hk0.trans (hB.mono hk0.size)
 have nC:=HM.out.below hk3 HM.out.lt
 have hu3:=HU.out.below hk3 HU.out.lt
 have hf3:=HF.out.below hk3 HF.out.lt
 have z17:w3.cell? ⟨gf,17,none⟩=some (.slice none 0 0):=hf3.at 17 _ rfl
 have f17:=hf3.free 17
 have l3:=hf3.lt
 have hHeld:=(show Ku a gm gu gf fuel w3 from ⟨nC,hu3,_,_,_,_,_,_,_,hf3⟩)
 refine hK.out _ _ (fun _=>hHeld) (fun Cq=>?_)
 clear hK K Cq
 (try simp only [Act.put,qS])
 refine qs 8 5 hHeld ?_
 refine qs 9 14 hHeld ?_
 refine qs 10 15 hHeld ?_
 refine qs 11 16 hHeld ?_
 refine qs 12 17 hHeld ?_
 refine qo 13 fun K hK=>?_
 go_simp
 have BI:=(show Ku a gm gu gf fuel _ from Ku.nA (.slice A8 8 c8) EP.out hHeld)
 clear hHeld
 have hHeld:=BI
 clear BI
 refine hK.out _ _ (fun _=>hHeld) (fun Cq=>?_)
 clear hK K Cq
 (try simp only [Act.put,qS])
 refine qs 14 4 hHeld ?_
 refine qd ?_
 have Ey:AL (w3.setCell ⟨gf,17,none⟩ (.slice A8 8 c8)) gf (fB 1 (.slice none 0 0) (.slice A8 8 c8)) 102:=(hf3.set 17 (.slice A8 8 c8))
 have OP:Touch (fun y=>y=gf) w (w3.setCell ⟨gf,17,none⟩ (.slice A8 8 c8)):=(Touch.of_below hk3).trans ((Touch.refl:Touch (fun y=>y=gf) w3 w3).trans (Touch.BZ (R:=fun y=>y=gf) (p:=⟨gf,17,none⟩) rfl))
 have vO:=BB (w':=(w3.setCell ⟨gf,17,none⟩ (.slice A8 8 c8))) (R:=fun y=>y=gf) hor ((Touch.refl:Touch (fun y=>y=gf) w3 w3).trans (Touch.BZ (R:=fun y=>y=gf) (p:=⟨gf,17,none⟩) rfl)) (fun x hx e=>by have:=(hor.lt x hx).1;have:=HF.out.lt;have e:x=gf:=e;omega)
 clear z17 f17 l3 hHeld
 generalize (w3.setCell ⟨gf,17,none⟩ (.slice A8 8 c8))=w9 at *
 go_wp2_with fail
 go_ret
 exact ⟨⟨A8,c8,rfl,Ey,vO⟩,OP⟩
end
end
end Go.Proofs.YthblbddmcdnllaaGreatDoor
