/- A part of the proof: WLayAll, WLay. -/
import Derived.Test.YthblbddmcdnllaaGreatDoorX46
import Derived.Test.YthblbddmcdnllaaGreatDoorX42
import Derived.Defers
import Derived.Recover
import Derived.Test.YthblbddmcdnllaaGreatDoorY1
set_option maxHeartbeats 6400000
set_option linter.unusedVariables false
set_option linter.unusedSimpArgs false
namespace Go.Proofs.YthblbddmcdnllaaGreatDoor
section
open Go.RowKit Go.Shelf
attribute [local go_sem] Oper.semAt_some
def JA (t d ds dv mi mo:Int):Array Value:=#[.int .i64 0,.int .i64 0,.int .i64 1,.int .i64 0,.int .i64 8,.int .i64 t,.int .i64 d,.int .i64 ds,.int .i64 dv,.int .i64 mi,.int .i64 mo]
def mU:List UInt8:=Cf (Cf EO 0 1) 1 3
theorem Tn:mU.length=2048:=by unfold mU;rw [Ca,Ca,Db]
theorem Om:Qs.length=2048:=by unfold Qs;rw [Ca,Ca,Ca,Ca,Db]
def Jo (a g2 g3:Nat) (w':World):Prop:=(w'.cell? ⟨g3,0,none⟩=some (.int .i64 0)∧w'.cell? ⟨g3,1,none⟩=some (.int .i64 0)∧w'.cell? ⟨g3,2,none⟩=some (.int .i64 1)∧w'.cell? ⟨g3,3,none⟩=some (.int .i64 0)∧w'.cell? ⟨g3,4,none⟩=some (.slice none 0 0))∧w'.cell? ⟨g2,0,none⟩=some (.pointer (some ⟨a,0,none⟩))
theorem Jo.set {a g2 g3 g4 o:Nat} {w':World} {u:Value} (hg:g2≠g4∧g3≠g4) (h:Jo a g2 g3 w'):Jo a g2 g3 (w'.setCell ⟨g4,o,none⟩ u):=by
 obtain ⟨⟨h0,h1,h2,h3,h4⟩,h5⟩:=h
 have k:∀ b i,b≠g4→(w'.setCell ⟨g4,o,none⟩ u).cell? ⟨b,i,none⟩=w'.cell? ⟨b,i,none⟩:=fun b i hb=>World.cell?_of_block (a:=⟨b,i,none⟩) (Below.heap_setCell w' ⟨g4,o,none⟩ u b hb)
 exact ⟨⟨(k g3 0 hg.2).trans h0,(k g3 1 hg.2).trans h1,(k g3 2 hg.2).trans h2,(k g3 3 hg.2).trans h3,(k g3 4 hg.2).trans h4⟩,(k g2 0 hg.1).trans h5⟩
theorem ML {w:World} {g i j:Nat} {cs:Array Value} {T:TypeId} (h:AL w g cs T) (u v:Value):AL ((w.setCell ⟨g,i,none⟩ u).setCell ⟨g,j,none⟩ v) g ((cs.setIfInBounds i u).setIfInBounds j v) T∧Touch (fun x=>x=g) w ((w.setCell ⟨g,i,none⟩ u).setCell ⟨g,j,none⟩ v) :=
 ⟨(h.set i u).set j v,(Touch.BZ (R:=fun x=>x=g) (p:=⟨g,i,none⟩) rfl).trans (Touch.BZ (R:=fun x=>x=g) (p:=⟨g,j,none⟩) rfl)⟩
set_option maxRecDepth 100000 in
theorem Zi (w:World) (base a img gl c:Nat) (h:Az w base a img gl 7 c 0 EO) (hc:7≤c) (hb:base≤w.heap.size) :
 Calls Tryz.prog 17 #[.agg #[.pointer (some ⟨a,0,none⟩)],D7] w fun e w'=>e=.returned (.tuple #[])∧BO w' base img av∧Touch (Bo w a img) w w':=by
 have Sb:Hid (∀ w' k bs,Az w' base a img gl 7 c k bs→Calls Tryz.prog 34 #[.pointer (some ⟨a,0,none⟩)] w' fun e w''=>e=.returned (.pointer (some ⟨img,0,none⟩))∧w''=w'):=fun w' k bs hs=>Ji w' a img 7 c _ _ hs.1
 have LM:Hid (∀ w' k bs,bs.length=2048→Az w' base a img gl 7 c k bs→Calls Tryz.prog 33 #[.pointer (some ⟨img,0,none⟩)] w' fun e w''=>e=.returned (.int .i64 8)∧w''=w'):=fun w' k bs hbl hs=>by
  obtain ⟨A,cc,h1,-⟩:=hs.2.1.MG
  have h9:=CF w' img A bs.length cc h1 (by rw [hbl];decide)
  rw [hbl] at h9
  refine h9.mono ?_
  rintro e w2 ⟨rfl,hw⟩
  exact ⟨rfl,hw.symm⟩
 have ag:=qh (fun w'=>Og w')
 have Zw:Hid (∀ w',Az w' base a img gl 7 c 0 EO→base≤w'.heap.size→Calls Tryz.prog 35 #[.agg #[.pointer (some ⟨a,0,none⟩)],.slice none 0 0] w' fun e w''=>e=.returned (.tuple #[.int .i64 1,.int .i64 2])∧Az w'' base a img gl 7 c 2 mU∧Touch (Bo w' a img) w' w''):=fun w' hs hb=>Xa w' base a img gl 7 c 0 EO hs (by omega) hc (by omega) (by rw [Db];omega) (by rw [Db];omega) hb
 have ZG:=qh (fun w'=>Xo w')
 have yZ:Hid (∀ w' A cc,Az w' base a img gl 7 c 2 mU→base≤w'.heap.size→Calls Tryz.prog 36 #[.pointer (some ⟨a,0,none⟩),.slice A 0 cc] w' fun e w''=>e=.returned (.tuple #[.int .i64 3,.int .i64 4,.nilIface])∧Az w'' base a img gl 7 c 4 Qs∧Touch (Bo w' a img) w' w''):=fun w' A cc hs hb=>VT w' base a img gl 7 c 2 mU A cc hs (by omega) hc (by omega) (by rw [Tn];omega) (by rw [Tn];omega) hb
 have iD:Hid (∀ w',Az w' base a img gl 7 c 4 Qs→Calls Tryz.prog 39 #[.agg #[.pointer (some ⟨a,0,none⟩)]] w' fun e w''=>(∃ g,e=.returned (.slice (some ⟨g,0,none⟩) 8 8)∧w'.heap.size≤g∧AL w'' g (FX 5) 3)∧Below w'.heap.size w' w''):=fun w' hs=>VO w' base a img gl 7 c 4 Qs hs Om (by omega)
 have yc:Hid (∀ w' gc,Az w' base a img gl 7 c 4 Qs→base≤w'.heap.size→AL w' gc (FX 5) 3→Calls Tryz.prog 38 #[.pointer (some ⟨a,0,none⟩),.slice (some ⟨gc,0,none⟩) 8 8] w' fun e w''=>e=.returned (.tuple #[.int .i64 7,.int .i64 5,.nilIface])∧Az w'' base a img gl 7 c 7 (Gm Qs)∧Touch (Bo w' a img) w' w''):=fun w' gc hs hb hX=>VW w' base a img gl c Qs gc hs hc Om hb hX
 have ZI:Hid (∀ w',Calls Tryz.prog 40 #[.agg (JA 1 2 3 4 7 5)] w' fun e w''=>(∃ g,e=.returned (.tuple #[.slice (some ⟨g,0,none⟩) 244 244,.int .i64 0])∧w'.heap.size≤g∧w''.heap[g]? = some (.cells (AA AX (Cg Qe)).toArray 5 (0,0)))∧Below w'.heap.size w' w''):=fun w'=>by
  refine (MC w' Qe (by decide) (by decide)).mono ?_
  rintro e w'' ⟨h1,h2⟩
  unfold FO at h1
  rw [if_pos (by decide)] at h1
  exact ⟨h1,h2⟩
 have Ie:Hid (∀ w1 w2 g,Az w1 base a img gl 7 c 7 (Gm Qs)→Below w1.heap.size w1 w2→w1.heap.size≤g→w2.heap[g]? = some (.cells (AA AX (Cg Qe)).toArray 5 (0,0))→Calls Tryz.prog 41 #[.pointer (some ⟨img,0,none⟩),.int .i64 0,.int .i64 1,.slice (some ⟨g,0,none⟩) 244 244] w2 fun e w'=>e=.returned .nilIface∧BO w' base img av∧Touch (Bo w1 a img) w2 w'):=fun w1 w2 g hs hB hg hc=>by
  have hl4:(Gm Qs).length=2048:=by unfold Gm;rw [Jk,Jk,Ca,Om]
  have ho:w2.ownsRow 0 5 1 (.slice (some ⟨g,0,none⟩) 244 244) 244 (AA AX (Cg Qe)):=⟨by rw [Ad];rfl,.inr ⟨g,244,_,rfl,Nat.zero_le _,hc,Nat.le_refl _,by decide,by rw [List.size_toArray,Ad];rfl,by rw [List.toList_toArray,List.take_of_length_le (by rw [Ad];exact Nat.le_refl _)]⟩⟩
  have h9:=H8 w2 (fun b=>b<w2.heap.size) base img (Gm Qs) 0 1 (.slice (some ⟨g,0,none⟩) 244 244) (Cg Qe) (fun b hb=>hb) (hs.below hB).2.1 (by rw [hl4];decide) (FW ho (by rfl)) (by decide) (by omega) (by omega) (by omega) (by omega)
  refine h9.mono ?_
  rintro e w' ⟨h1,h2,h3⟩
  exact ⟨h1,h2,h3.weak (fun x hx=>CJ hs.2.1 hB x (.inr hx))⟩
 have HH:=qh h
 have IL:=qh hb
 have EP:=qh h.Tk
 have JC:=qh h.2.1
 clear h hc hb
 obtain ⟨k2,k3,kB,kz⟩:=AL.two w #[.pointer (some ⟨a,0,none⟩)] #[.int .i64 0,.int .i64 0,.int .i64 1,.int .i64 0,.slice none 0 0] 54 32
 clear kz
 unfold D7 at ZG ⊢
 have ZI:Hid (∀ w',Calls Tryz.prog 40 #[.agg #[.int .i64 0,.int .i64 0,.int .i64 1,.int .i64 0,.int .i64 8,.int .i64 1,.int .i64 2,.int .i64 3,.int .i64 4,.int .i64 7,.int .i64 5]] w' fun e w''=>(∃ g,e=.returned (.tuple #[.slice (some ⟨g,0,none⟩) 244 244,.int .i64 0])∧w'.heap.size≤g∧w''.heap[g]? = some (.cells (AA AX (Cg Qe)).toArray 5 (0,0)))∧Below w'.heap.size w' w''):=ZI
 go_enter Tryz.func17,Tryz.ntmps17
 go_upto_region 1 with fail
 generalize (w.alloc (.cells #[.pointer (some ⟨a,0,none⟩)] 54)).alloc (.cells #[.int .i64 0,.int .i64 0,.int .i64 1,.int .i64 0,.slice none 0 0] 32)=w1 at *
 have HB1:=qh kB
 obtain ⟨g3,hg3⟩:∃ q,w.heap.size+1=q:=⟨_,rfl⟩
 rw [hg3] at k3 ⊢
 obtain ⟨g2,hg2⟩:∃ q,w.heap.size=q:=⟨_,rfl⟩
 have Pq:=qh hg2
 rw [hg2] at k2 ⊢
 have TY:=qh k2
 have XJ:=qh k3
 have IV:=qh (HH.out.below kB)
 have hs1:=kB.size
 have mV:Hid (g2<w1.heap.size∧g3<w1.heap.size):=⟨k2.lt,k3.lt⟩
 clear k2 k3 kB hg2 hg3
 go_cut [4] (fun s4 wx=>∃ g4,s4=.pointer (some ⟨g4,0,none⟩)∧Hid (AL wx g4 (JA 0 0 0 0 0 0) 59)∧Hid (Below w1.heap.size w1 wx)∧Hid (w1.heap.size≤g4))
 case first =>
  obtain ⟨x0,x1,x2,x3,x4⟩:=Bn XJ.out
  have y0:w1.cell? ⟨g2,0,none⟩=some (.pointer (some ⟨a,0,none⟩)):=TY.out.at 0 _ rfl
  have hk0:=(Below.refl w1.heap.size w1).drew
  have hk1:=fun o=>((Below.refl w1.heap.size w1).alloc (Nat.le_refl _) o).drew
  go_region_held3 (fun w'=>w'.cell? ⟨g3,0,none⟩=some (.int .i64 0)∧w'.cell? ⟨g3,1,none⟩=some (.int .i64 0)∧w'.cell? ⟨g3,2,none⟩=some (.int .i64 1)∧w'.cell? ⟨g3,3,none⟩=some (.int .i64 0)∧w'.cell? ⟨g2,0,none⟩=some (.pointer (some ⟨a,0,none⟩))) (go_keep)
   (first
    | (go_at_call 34;refine (Sb.out _ 0 EO (IV.out.below (by first|exact hk0|exact hk1 _))).mono ?_;rintro e w2 ⟨rfl,hw⟩;rw [hw];clear hw w2)
    | (go_at_call 33;refine (LM.out _ 0 EO Db (IV.out.below (by first|exact hk0|exact hk1 _))).mono ?_;rintro e w2 ⟨rfl,hw⟩;rw [hw];clear hw w2))
  all_goals (go_wp2_with fail;go_meet;exact ⟨w1.heap.size,rfl,(AL.new w1 (JA 0 0 0 0 0 0) 59:_),hk1 _,Nat.le_refl _⟩)
 rename World=>w3
 obtain ⟨g4,h4,VL,HB3,jN⟩:=hcut
 obtain rfl:=h4.symm
 clear h4
 have Mm:=qh (IV.out.below HB3.out)
 have VY:=qh (TY.out.below HB3.out TY.out.lt)
 have VZ:=qh (XJ.out.below HB3.out XJ.out.lt)
 have hs3:=HB3.out.size
 have mW:=qh (Zw.out w3 Mm.out (by have:=IL.out;omega))
 have y0:w3.cell? ⟨g2,0,none⟩=some (.pointer (some ⟨a,0,none⟩)):=VY.out.at 0 _ rfl
 have y4:w3.cell? ⟨g3,4,none⟩=some (.slice none 0 0):=VZ.out.at 4 _ rfl
 have MP:=qh (Ce Mm.out VL.out (by decide) (by decide))
 have Qo:=qh (Ce Mm.out VY.out (by decide) (by decide))
 have Rj:=qh (Ce Mm.out VZ.out (by decide) (by decide))
 clear Zw LM IV TY XJ
 go_upto_region 4 with (go_at_call 35;(with_reducible refine mW.out.mono ?_);rintro e w4 ⟨rfl,ha,hT⟩;have yf:=qh ha;have hb4:AL w4 g4 (JA 0 0 0 0 0 0) 59:=(hT.block VL.out.lt MP.out).trans VL.out;have P9:=qh hT;have v5:w4.cell? ⟨g4,5,none⟩=some (.int .i64 0):=hb4.at 5 _ rfl;have v6:w4.cell? ⟨g4,6,none⟩=some (.int .i64 0):=hb4.at 6 _ rfl;have f5:=hb4.free 5;have f6:=hb4.free 6;have l4:=hb4.lt;have Oe:=qh hb4;clear ha hT hb4)
 have fq:Hid (Touch (Bo w a img) w w4):=by
  have iQ:=HB1.out.trans (HB3.out.mono HB1.out.size)
  exact (Touch.of_below iQ).trans (P9.out.weak (CJ JC.out iQ))
 obtain ⟨hb5,JY⟩:=ML (i:=5) (j:=6) Oe.out (.int .i64 1) (.int .i64 2)
 have hb5:AL ((w4.setCell ⟨g4,5,none⟩ (.int .i64 1)).setCell ⟨g4,6,none⟩ (.int .i64 2)) g4 (JA 1 2 0 0 0 0) 59:=hb5
 have Ol:=qh (yf.out.touch JY Oe.out (by decide) (by decide) (by decide) (by decide))
 have fu:g2≠g4:=fun e=>by have:=mV.out.1;have:=jN.out;omega
 have fw:g3≠g4:=fun e=>by have:=mV.out.2;have:=jN.out;omega
 have Hy:Hid (AL ((w4.setCell ⟨g4,5,none⟩ (.int .i64 1)).setCell ⟨g4,6,none⟩ (.int .i64 2)) g2 _ _):=(JY.block (Nat.lt_of_lt_of_le VY.out.lt P9.out.size) fu).trans ((P9.out.block VY.out.lt Qo.out).trans VY.out)
 have Oo:Hid (AL ((w4.setCell ⟨g4,5,none⟩ (.int .i64 1)).setCell ⟨g4,6,none⟩ (.int .i64 2)) g3 _ _):=(JY.block (Nat.lt_of_lt_of_le VZ.out.lt P9.out.size) fw).trans ((P9.out.block VZ.out.lt Rj.out).trans VZ.out)
 have ZN:Hid (w.heap.size≤g4):=by show _≤_;have:=jN.out;have:=HB1.out.size;omega
 have gD:Hid (Touch (Bo w a img) w ((w4.setCell ⟨g4,5,none⟩ (.int .i64 1)).setCell ⟨g4,6,none⟩ (.int .i64 2))):=fq.out.trans' JY (fun x e=>.inr (by rw [e];exact ZN.out))
 have hs5:base≤w4.heap.size:=by have:=IL.out;have:=fq.out.size;omega
 rw [← (show ((w4.setCell ⟨g4,5,none⟩ (.int .i64 1)).setCell ⟨g4,6,none⟩ (.int .i64 2)).heap.size=w4.heap.size by simp)] at hs5
 clear v5 v6 f5 f6 l4 y0 y4 JY P9 fq mW yf Oe VY VZ Mm MP Qo Rj hs1 hs3
 generalize (w4.setCell ⟨g4,5,none⟩ (.int .i64 1)).setCell ⟨g4,6,none⟩ (.int .i64 2)=w5 at *
 have Mo:=qh hb5
 have Mq:=qh (And.intro fu fw)
 have aB:=qh hs5
 clear hb5 fu fw hs5
 have MP:=qh (Ce Ol.out Mo.out (by decide) (by decide))
 have Qo:=qh (Ce Ol.out Hy.out (by decide) (by decide))
 have Rj:=qh (Ce Ol.out Oo.out (by decide) (by decide))
 go_cut [5] (fun s5 wx=>s5=.nilIface∧Hid (AL wx g4 (JA 1 2 3 4 0 0) 59)∧Hid (Az wx base a img gl 7 c 4 Qs)∧Hid (Touch (fun x=>Bo w5 a img x∨x=g4) w5 wx))
 case first =>
  obtain ⟨x0,x1,x2,x3,x4⟩:=Bn Oo.out
  have y0:w5.cell? ⟨g2,0,none⟩=some (.pointer (some ⟨a,0,none⟩)):=Hy.out.at 0 _ rfl
  have hk5:=(Below.refl w5.heap.size w5).drew
  have HP:Hid (∀ w',Below w5.heap.size w5 w'→(w'.cell? ⟨g3,0,none⟩=some (.int .i64 0)∧w'.cell? ⟨g3,1,none⟩=some (.int .i64 0)∧w'.cell? ⟨g3,2,none⟩=some (.int .i64 1)∧w'.cell? ⟨g3,3,none⟩=some (.int .i64 0)∧w'.cell? ⟨g3,4,none⟩=some (.slice none 0 0))∧w'.cell? ⟨g2,0,none⟩=some (.pointer (some ⟨a,0,none⟩))):=fun w' hB=>⟨Bn (Oo.out.below hB Oo.out.lt),(Hy.out.below hB Hy.out.lt).at 0 _ rfl⟩
  have HQ:Hid (∀ w',Touch (Bo w5 a img) w5 w'→AL w' g2 _ _∧AL w' g3 _ _∧AL w' g4 _ _):=fun w' hT=>⟨(hT.block Hy.out.lt Qo.out).trans Hy.out,(hT.block Oo.out.lt Rj.out).trans Oo.out,(hT.block Mo.out.lt MP.out).trans Mo.out⟩
  go_region_held3 (fun w'=>(w'.cell? ⟨g3,0,none⟩=some (.int .i64 0)∧w'.cell? ⟨g3,1,none⟩=some (.int .i64 0)∧w'.cell? ⟨g3,2,none⟩=some (.int .i64 1)∧w'.cell? ⟨g3,3,none⟩=some (.int .i64 0)∧w'.cell? ⟨g3,4,none⟩=some (.slice none 0 0))∧w'.cell? ⟨g2,0,none⟩=some (.pointer (some ⟨a,0,none⟩))) (first|exact Jo.set Mq.out ⟨⟨x0,x1,x2,x3,x4⟩,y0⟩|exact Jo.set Mq.out (Jo.set Mq.out ⟨⟨x0,x1,x2,x3,x4⟩,y0⟩)|go_keep)
   (first
    | (go_at_call 37;refine (ZG.out _).mono ?_;rintro e w6 ⟨⟨Ar,cr,rfl⟩,FP⟩;have NH:=hk5.trans (FP.mono hk5.size);clear x0 x1 x2 x3 x4 y0;obtain ⟨⟨x0,x1,x2,x3,x4⟩,y0⟩:=HP.out _ NH)
    | (go_at_call 36;refine (yZ.out w6 Ar cr (Ol.out.below NH) (Nat.le_trans aB.out NH.size)).mono ?_;rintro e w7 ⟨rfl,vF,ax⟩;have Xp:Touch (Bo w5 a img) w5 w7:=(Touch.of_below NH).trans (ax.weak (CJ Ol.out.2.1 NH));clear x0 x1 x2 x3 x4 y0;obtain ⟨hb2,hb3,hb4⟩:=HQ.out _ Xp;obtain ⟨x0,x1,x2,x3,x4⟩:=Bn hb3;have y0:w7.cell? ⟨g2,0,none⟩=some (.pointer (some ⟨a,0,none⟩)):=hb2.at 0 _ rfl;have v7:w7.cell? ⟨g4,7,none⟩=some (.int .i64 0):=hb4.at 7 _ rfl;have v8:w7.cell? ⟨g4,8,none⟩=some (.int .i64 0):=hb4.at 8 _ rfl;have f7:=hb4.free 7;have f8:=hb4.free 8;have l4:=hb4.lt))
  all_goals (have Ey:=ML (i:=7) (j:=8) hb4 (.int .i64 3) (.int .i64 4);go_wp2_with fail;go_meet;exact ⟨rfl,Ey.1,vF.touch Ey.2 hb4 (by decide) (by decide) (by decide) (by decide),(Xp.weak (fun x hx=>.inl hx)).trans (Ey.2.weak (fun x hx=>.inr hx))⟩)
 rename World=>w8
 obtain ⟨h5,Mr,Sj,Js⟩:=hcut
 obtain rfl:=h5.symm
 clear h5
 have vG:∀ x,x=g2∨x=g3→x<w5.heap.size→¬ Bo w5 a img x→w8.heap[x]? = w5.heap[x]? := fun x hx hl hn=>Js.out.block hl (fun e=>by rcases e with e|e;exact hn e;rcases hx with rfl|rfl;exact Mq.out.1 e;exact Mq.out.2 e)
 have Oq:Hid (AL w8 g2 _ _):=(vG g2 (.inl rfl) Hy.out.lt Qo.out).trans Hy.out
 have Sk:Hid (AL w8 g3 _ _):=(vG g3 (.inr rfl) Oo.out.lt Rj.out).trans Oo.out
 have Si:Hid (Touch (Bo w a img) w w8):=gD.out.trans' Js.out (fun x hx=>by
  rcases hx with hx|hx
  · exact .inl (Eb JC.out gD.out EP.out x hx)
  · exact .inr (by rw [hx];exact ZN.out))
 have Vj:Hid (base≤w8.heap.size):=Nat.le_trans aB.out Js.out.size
 clear vG Js gD aB MP Qo Rj Hy Oo Mo Ol yZ ZG
 have MP:=qh (Ce Sj.out Mr.out (by decide) (by decide))
 have Qo:=qh (Ce Sj.out Oq.out (by decide) (by decide))
 have Rj:=qh (Ce Sj.out Sk.out (by decide) (by decide))
 go_upto_region 6 with (go_at_call 16;(with_reducible refine (ag.out _).mono ?_);rintro e w9 ⟨rfl,hw⟩;rw [hw];clear hw w9)
 go_cut [5] (fun s5 wx=>s5=.nilIface∧Hid (AL wx g4 (JA 1 2 3 4 7 5) 59)∧Hid (Az wx base a img gl 7 c 7 (Gm Qs))∧Hid (Touch (fun x=>Bo w8 a img x∨x=g4) w8 wx))
 case first =>
  obtain ⟨x0,x1,x2,x3,x4⟩:=Bn Sk.out
  have y0:w8.cell? ⟨g2,0,none⟩=some (.pointer (some ⟨a,0,none⟩)):=Oq.out.at 0 _ rfl
  have hk5:=(Below.refl w8.heap.size w8).drew
  have HP:Hid (∀ w',Below w8.heap.size w8 w'→(w'.cell? ⟨g3,0,none⟩=some (.int .i64 0)∧w'.cell? ⟨g3,1,none⟩=some (.int .i64 0)∧w'.cell? ⟨g3,2,none⟩=some (.int .i64 1)∧w'.cell? ⟨g3,3,none⟩=some (.int .i64 0)∧w'.cell? ⟨g3,4,none⟩=some (.slice none 0 0))∧w'.cell? ⟨g2,0,none⟩=some (.pointer (some ⟨a,0,none⟩))):=fun w' hB=>⟨Bn (Sk.out.below hB Sk.out.lt),(Oq.out.below hB Oq.out.lt).at 0 _ rfl⟩
  have HQ:Hid (∀ w',Touch (Bo w8 a img) w8 w'→AL w' g2 _ _∧AL w' g3 _ _∧AL w' g4 _ _):=fun w' hT=>⟨(hT.block Oq.out.lt Qo.out).trans Oq.out,(hT.block Sk.out.lt Rj.out).trans Sk.out,(hT.block Mr.out.lt MP.out).trans Mr.out⟩
  go_region_held3 (fun w'=>(w'.cell? ⟨g3,0,none⟩=some (.int .i64 0)∧w'.cell? ⟨g3,1,none⟩=some (.int .i64 0)∧w'.cell? ⟨g3,2,none⟩=some (.int .i64 1)∧w'.cell? ⟨g3,3,none⟩=some (.int .i64 0)∧w'.cell? ⟨g3,4,none⟩=some (.slice none 0 0))∧w'.cell? ⟨g2,0,none⟩=some (.pointer (some ⟨a,0,none⟩))) (first|exact Jo.set Mq.out ⟨⟨x0,x1,x2,x3,x4⟩,y0⟩|exact Jo.set Mq.out (Jo.set Mq.out ⟨⟨x0,x1,x2,x3,x4⟩,y0⟩)|go_keep)
   (first
    | (go_at_call 39;refine (iD.out _ (Sj.out.below hk5)).mono ?_;rintro e w6 ⟨⟨gc,rfl,hgc,hbc⟩,FP⟩;have NH:=hk5.trans (FP.mono hk5.size);clear x0 x1 x2 x3 x4 y0;obtain ⟨⟨x0,x1,x2,x3,x4⟩,y0⟩:=HP.out _ NH)
    | (go_at_call 38;refine (yc.out w6 gc (Sj.out.below NH) (Nat.le_trans Vj.out NH.size) hbc).mono ?_;rintro e w7 ⟨rfl,vF,ax⟩;have Xp:Touch (Bo w8 a img) w8 w7:=(Touch.of_below NH).trans (ax.weak (CJ Sj.out.2.1 NH));clear x0 x1 x2 x3 x4 y0;obtain ⟨hb2,hb3,hb4⟩:=HQ.out _ Xp;obtain ⟨x0,x1,x2,x3,x4⟩:=Bn hb3;have y0:w7.cell? ⟨g2,0,none⟩=some (.pointer (some ⟨a,0,none⟩)):=hb2.at 0 _ rfl;have v7:w7.cell? ⟨g4,9,none⟩=some (.int .i64 0):=hb4.at 9 _ rfl;have v8:w7.cell? ⟨g4,10,none⟩=some (.int .i64 0):=hb4.at 10 _ rfl;have f7:=hb4.free 9;have f8:=hb4.free 10;have l4:=hb4.lt))
  all_goals (have Ey:=ML (i:=9) (j:=10) hb4 (.int .i64 7) (.int .i64 5);go_wp2_with fail;go_meet;exact ⟨rfl,Ey.1,vF.touch Ey.2 hb4 (by decide) (by decide) (by decide) (by decide),(Xp.weak (fun x hx=>.inl hx)).trans (Ey.2.weak (fun x hx=>.inr hx))⟩)
 rename World=>D9
 obtain ⟨h5,IA,Qd,QH⟩:=hcut
 obtain rfl:=h5.symm
 clear h5
 have ay:Hid (AL D9 g2 _ _):=(QH.out.block Oq.out.lt (fun e=>by rcases e with e|e;exact Qo.out e;exact Mq.out.1 e)).trans Oq.out
 have Ng:Hid (Touch (Bo w a img) w D9):=Si.out.trans' QH.out (fun x hx=>by
  rcases hx with hx|hx
  · exact .inl (Eb JC.out Si.out EP.out x hx)
  · exact .inr (by rw [hx];exact ZN.out))
 clear QH Si Vj MP Qo Rj Oq Sk Mr Sj iD yc Mq ZN
 have v0:D9.cell? ⟨g4,0,none⟩=some (.int .i64 0):=IA.out.at 0 _ rfl
 have v1:D9.cell? ⟨g4,1,none⟩=some (.int .i64 0):=IA.out.at 1 _ rfl
 have v2:D9.cell? ⟨g4,2,none⟩=some (.int .i64 1):=IA.out.at 2 _ rfl
 have v3:D9.cell? ⟨g4,3,none⟩=some (.int .i64 0):=IA.out.at 3 _ rfl
 have v4:D9.cell? ⟨g4,4,none⟩=some (.int .i64 8):=IA.out.at 4 _ rfl
 have v5:D9.cell? ⟨g4,5,none⟩=some (.int .i64 1):=IA.out.at 5 _ rfl
 have v6:D9.cell? ⟨g4,6,none⟩=some (.int .i64 2):=IA.out.at 6 _ rfl
 have v7:D9.cell? ⟨g4,7,none⟩=some (.int .i64 3):=IA.out.at 7 _ rfl
 have v8:D9.cell? ⟨g4,8,none⟩=some (.int .i64 4):=IA.out.at 8 _ rfl
 have v9:D9.cell? ⟨g4,9,none⟩=some (.int .i64 7):=IA.out.at 9 _ rfl
 have v10:D9.cell? ⟨g4,10,none⟩=some (.int .i64 5):=IA.out.at 10 _ rfl
 go_upto_region 9 with (first
  | (go_at_call 16;(with_reducible refine (ag.out _).mono ?_);rintro e w9 ⟨rfl,hw⟩;rw [hw];clear hw w9)
  | (go_at_call 40;(with_reducible refine (ZI.out _).mono ?_);rintro e Vi ⟨⟨gs,rfl,hgs,hcs⟩,hB⟩;have Oz:=qh hgs;have cZ:=qh hcs;have Zj:=qh hB;clear hgs hcs hB))
 rename World=>Vi
 have mX:=qh (Qd.out.below Zj.out)
 have y0:Vi.cell? ⟨g2,0,none⟩=some (.pointer (some ⟨a,0,none⟩)):=(ay.out.below Zj.out ay.out.lt).at 0 _ rfl
 have mY:=qh (Sb.out Vi 7 (Gm Qs) mX.out)
 have mZ:=qh (Ie.out D9 Vi gs Qd.out Zj.out Oz.out cZ.out)
 have Tm:Hid (Touch (Bo w a img) w Vi):=Ng.out.trans (Touch.of_below Zj.out)
 clear v0 v1 v2 v3 v4 v5 v6 v7 v8 v9 v10 Sb Ie ZI Oz cZ
 go_wp2_with (first
  | (go_at_call 34;(with_reducible refine mY.out.mono ?_);rintro e w9 ⟨rfl,hw⟩;rw [hw];clear hw w9)
  | (go_at_call 41;(with_reducible refine mZ.out.mono ?_);rintro e YA ⟨rfl,ho,hT⟩;have fG:=qh ho;have vH:=qh hT;clear ho hT)
  | (go_at_call 16;(with_reducible refine (ag.out _).mono ?_);rintro e mD ⟨rfl,hw⟩;rw [hw];clear hw mD))
 refine bodyPost_end (results_none rfl _ _ _) rfl ⟨rfl,fG.out,Tm.out.trans (vH.out.weak (Eb JC.out Ng.out EP.out))⟩
end
section
open Go.RowKit Go.Shelf
theorem Sl (w:World):(Instr.typeAssert .nilIface 20 42 true).run Tryz.prog w=.ok (.tuple #[.agg #[.nilIface],.bool false]) w:=by
 kernel_rfl
set_option maxRecDepth 100000 in
theorem Zk (g4 g5:Nat) (w:World) :
 CallsD Tryz.prog 11 #[.pointer (some ⟨g4,0,none⟩),.pointer (some ⟨g5,0,none⟩)] .returning w fun e u' w'=>e=.returned (.tuple #[])∧u'=.returning∧Below w.heap.size w w':=by
 refine callsD_of_wpS Tryz.func11 rfl fun c₀ cs hu=>?_
 apply wpS_seq
 apply wpS_region
 have hta:=Sl w
 simp [hta,wpOpsS,go_sem,recoverD,hu,Tryz.ntmps11,Exit.thenS]
 apply wpS_seq
 apply wpS_region
 simp [wpOpsS,go_sem,recoverD,hu,Exit.thenS]
 refine wpS_cond (t:=false) (by simp [Act.eval,Array.replicate,Array.replicate_succ]) ?_
 simp only [Bool.false_eq_true,if_false]
 refine wpS_of_wp (wp_skip ?_)
 have hB:Below w.heap.size w (w.alloc (.cells #[.nilIface] 42)):=(Below.refl _ _).alloc (Nat.le_refl _) _
 cases c₀
 simp_all [bodyPostS,results,Tryz.results11]
theorem Qf {fn:Func} {k1 k2 g4 g5:Nat} {tmps:Array Value} {w:World} {a b:Value} (hres:fn.results=#[.cell k1 25,.cell k2 27]) (h1:tmps[k1]? = some (.pointer (some ⟨g4,0,none⟩))) (h2:tmps[k2]? = some (.pointer (some ⟨g5,0,none⟩))) (c4:w.cell? ⟨g4,0,none⟩=some a) (c5:w.cell? ⟨g5,0,none⟩=some b):(results fn tmps).run Tryz.prog w=.ok (.tuple #[a,b]) w:=by
 simp [results,hres,h1,h2,go_sem,c4,c5]
theorem Sm {fn:Func} {tmps:Array Value} {R:Ending→World→Prop} {w:World} {g4 g5:Nat} {a b:Value} {k1 k2:Nat} (hres:fn.results=#[.cell k1 25,.cell k2 27]) (h1:tmps[k1]? = some (.pointer (some ⟨g4,0,none⟩))) (h2:tmps[k2]? = some (.pointer (some ⟨g5,0,none⟩))) (c4:w.cell? ⟨g4,0,none⟩=some a) (c5:w.cell? ⟨g5,0,none⟩=some b) (hR:R (.returned (.tuple #[a,b])) w) :
 Leaves Tryz.prog fn tmps R [] (settle .returning) w:=⟨_,Qf hres h1 h2 c4 c5,hR⟩
theorem BO.Sn {w w':World} {base a g:Nat} {bs:List UInt8} (h:BO w base a bs) (hT:Touch (fun x=>x=g) w w') (hg:g<base):BO w' base a bs:=by
 obtain ⟨h0,A,c,q1,q2⟩:=h
 have q1':w.heap[a]? = some _:=q1
 exact ⟨h0,A,c,(hT.block (Array.getElem?_eq_some_iff.1 q1').1 (fun e=>by have e:a=g:=e;omega)).trans q1,BB q2 hT (fun x hx e=>by have:=(q2.lt x hx).1;have e:x=g:=e;omega)⟩
set_option maxRecDepth 100000 in
theorem gF (w:World):Calls Tryz.prog 7 #[D7,.int .i64 8] w fun e w'=>(∃ a,e=.returned (.tuple #[.pointer (some ⟨a,0,none⟩),.nilIface])∧BO w' w.heap.size a av)∧Below w.heap.size w w':=by
 have XF:=qh (fun w'=>Xn w')
 have NN:=qh (fun w'=>mQ w')
 have UH:=qh (fun w'=>Ze w')
 have ag:=qh (fun w'=>Og w')
 unfold D7 at XF NN ⊢
 have iF:∀ (fn:Fn) (first cap:Array Value) (w:World),(Instr.makeFunc fn first cap).run Tryz.prog w=.ok (.func fn first cap) w:=fun _ _ _ _=>rfl
 go_enter_defers Tryz.func7,Tryz.ntmps7
 obtain ⟨k2,k4,k5,kB,kz⟩:=AL.three w #[.int .i64 0,.int .i64 0,.int .i64 1,.int .i64 0,.slice none 0 0] #[.pointer none] #[.nilIface] 32 25 27
 go_upto_region 1 with fail
 generalize ((w.alloc (.cells #[.int .i64 0,.int .i64 0,.int .i64 1,.int .i64 0,.slice none 0 0] 32)).alloc (.cells #[.pointer none] 25)).alloc (.cells #[.nilIface] 27)=w1 at *
 obtain ⟨g5,hg5⟩:∃ q,w.heap.size+1+1=q:=⟨_,rfl⟩
 obtain ⟨g4,hg4⟩:∃ q,w.heap.size+1=q:=⟨_,rfl⟩
 obtain ⟨g2,hg2⟩:∃ q,w.heap.size=q:=⟨_,rfl⟩
 have VM:Hid (w.heap.size≤g2∧w.heap.size≤g4∧w.heap.size≤g5∧g2≠g4∧g2≠g5∧g4≠g5):=⟨by omega,by omega,by omega,by omega,by omega,by omega⟩
 rw [hg5] at k5
 rw [hg4] at k4
 try rw [hg5]
 try rw [hg4]
 rw [hg2] at k2
 have HW:=qh hg2
 have TY:=qh k2
 have VL:=qh k4
 have og:=qh k5
 have HB1:=qh kB
 obtain ⟨x0,x1,x2,x3,x4⟩:=Bn k2
 clear k2 k4 k5 kB kz hg5 hg4
 rw [hg2]
 clear hg2
 go_upto_region 5 with (go_at_call 12;(with_reducible refine (XF.out _).mono ?_);rintro e w2 ⟨rfl,hB⟩;have HB2:=qh hB;clear hB)
 rename World=>w2
 clear x0 x1 x2 x3 x4
 have Zl:=qh (TY.out.below HB2.out TY.out.lt)
 have Od:=qh (VL.out.below HB2.out VL.out.lt)
 have Zm:=qh (og.out.below HB2.out og.out.lt)
 have vI:Hid (g2<w1.heap.size∧g4<w1.heap.size∧g5<w1.heap.size):=⟨TY.out.lt,VL.out.lt,og.out.lt⟩
 go_upto_region 6 with (go_at_call 13;(with_reducible refine (UH.out _).mono ?_);rintro e w3 ⟨⟨img,rfl,hoi⟩,hB⟩;have hb4:=Od.out.below hB Od.out.lt;have v4:w3.cell? ⟨g4,0,none⟩=some (.pointer none):=hb4.at 0 _ rfl;have f4:=hb4.free 0;have l4:=hb4.lt;have ma:=qh hb4;have oM:=qh hoi;have HB3:=qh hB;clear hoi hB hb4)
 have JB:Touch (fun x=>x=g4) w3 (w3.setCell ⟨g4,0,none⟩ (.pointer (some ⟨img,0,none⟩))):=Touch.BZ (R:=fun x=>x=g4) (p:=⟨g4,0,none⟩) rfl
 have hb4:AL (w3.setCell ⟨g4,0,none⟩ (.pointer (some ⟨img,0,none⟩))) g4 #[.pointer (some ⟨img,0,none⟩)] 25:=ma.out.set 0 _
 have hs2:=HB2.out.size
 have hs3:=HB3.out.size
 have mf:=oM.out.Sn JB (by have:=vI.out.2.1;omega)
 have hb2:=(JB.block (Nat.lt_of_lt_of_le Zl.out.lt hs3) VM.out.2.2.2.1).trans (Zl.out.below HB3.out Zl.out.lt)
 have hb5:=(JB.block (Nat.lt_of_lt_of_le Zm.out.lt hs3) (fun e=>VM.out.2.2.2.2.2 e.symm)).trans (Zm.out.below HB3.out Zm.out.lt)
 have dU:(w3.setCell ⟨g4,0,none⟩ (.pointer (some ⟨img,0,none⟩))).heap.size=w3.heap.size:=by simp
 have mg:Below w.heap.size w (w3.setCell ⟨g4,0,none⟩ (.pointer (some ⟨img,0,none⟩))):=by
  have h1:=HB1.out.trans ((HB2.out.trans (HB3.out.mono hs2)).mono HB1.out.size)
  exact h1.setCell VM.out.2.1 _
 clear v4 f4 l4 JB ma Zl Od Zm oM UH XF
 generalize w3.setCell ⟨g4,0,none⟩ (.pointer (some ⟨img,0,none⟩))=w4 at *
 have QT:Hid (AL w4 g2 #[.int .i64 0,.int .i64 0,.int .i64 1,.int .i64 0,.slice none 0 0] 32):=hb2
 have Oe:=qh hb4
 have gG:Hid (AL w4 g5 #[.nilIface] 27):=hb5
 have mh:=qh mf
 have EQ:=qh mg
 have iT:Hid (w1.heap.size≤w2.heap.size∧w2.heap.size≤w4.heap.size):=⟨hs2,by omega⟩
 obtain ⟨x0,x1,x2,x3,x4⟩:=Bn QT.out
 clear hb2 hb4 hb5 mf mg hs2 hs3 dU
 go_upto_region 10 with (go_at_call 14;(with_reducible refine (NN.out _).mono ?_);rintro e w5 ⟨rfl,hB⟩;have DT:=qh hB;clear hB)
 rename World=>w5
 clear x0 x1 x2 x3 x4
 have Hy:=qh (QT.out.below DT.out QT.out.lt)
 have Mo:=qh (Oe.out.below DT.out Oe.out.lt)
 have gH:=qh (gG.out.below DT.out gG.out.lt)
 have gI:=qh (mh.out.below' DT.out)
 obtain ⟨Ai,ci,hci,yg⟩:=gI.out.MG
 have yh:Hid (Calls Tryz.prog 15 #[.pointer (some ⟨img,0,none⟩),.int .i64 1] w5 fun e w'=>(∃ a gl c,e=.returned (.tuple #[.pointer (some ⟨a,0,none⟩),.nilIface])∧w5.heap.size≤a∧gl≠a∧GD w' a img 7 c (some ⟨gl,0,none⟩) 0∧w'.ownsRow w5.heap.size 3 1 (.slice (some ⟨gl,0,none⟩) 7 c) 7 (AA encI (SY 7)))∧Below w5.heap.size w5 w'):=by
  rw [Db] at hci
  exact lQ w5 img 2048 ci Ai hci (by decide) (by decide) (by decide) yg
 have v4:w5.cell? ⟨g4,0,none⟩=some (.pointer (some ⟨img,0,none⟩)):=Mo.out.at 0 _ rfl
 clear hci yg QT Oe gG mh NN
 go_upto_region 11 with (go_at_call 15;(with_reducible refine yh.out.mono ?_);rintro e w6 ⟨⟨a,gl,c,rfl,hga,hgl,hab,hro⟩,hB⟩;have hb5:=gH.out.below hB gH.out.lt;have v5:w6.cell? ⟨g5,0,none⟩=some .nilIface:=hb5.at 0 _ rfl;have f5:=hb5.free 0;have l5:=hb5.lt;have gJ:=qh hb5;have iU:=qh (And.intro hga (And.intro hgl (And.intro hab hro)));have D8:=qh hB;clear hga hgl hab hro hB hb5)
 have ax:Touch (fun x=>x=g5) w6 (w6.setCell ⟨g5,0,none⟩ .nilIface):=Touch.BZ (R:=fun x=>x=g5) (p:=⟨g5,0,none⟩) rfl
 have hb5:AL (w6.setCell ⟨g5,0,none⟩ .nilIface) g5 #[.nilIface] 27:=gJ.out.set 0 _
 have hs5:=DT.out.size
 have hs6:=D8.out.size
 have Y2:Az w6 w2.heap.size a img gl 7 c 0 EO:=⟨iU.out.2.2.1,gI.out.below' D8.out,iU.out.2.2.2.mono (by have:=iT.out;omega),by have:=iU.out.1;have:=iT.out;omega,iU.out.2.1⟩
 have Va:=Y2.touch ax gJ.out (by decide) (by decide) (by decide) (by decide)
 have uf:7≤c:=by
  obtain ⟨A9,c9,e9,h9⟩:=DK iU.out.2.2.2
  injection e9 with _ _ e9
  omega
 have hb2:AL (w6.setCell ⟨g5,0,none⟩ .nilIface) g2 #[.int .i64 0,.int .i64 0,.int .i64 1,.int .i64 0,.slice none 0 0] 32:=(ax.block (Nat.lt_of_lt_of_le Hy.out.lt hs6) VM.out.2.2.2.2.1).trans (Hy.out.below D8.out Hy.out.lt)
 have hb4:AL (w6.setCell ⟨g5,0,none⟩ .nilIface) g4 #[.pointer (some ⟨img,0,none⟩)] 25:=(ax.block (Nat.lt_of_lt_of_le Mo.out.lt hs6) VM.out.2.2.2.2.2).trans (Mo.out.below D8.out Mo.out.lt)
 have bg:(w6.setCell ⟨g5,0,none⟩ .nilIface).heap.size=w6.heap.size:=by simp
 have Gs:Below w.heap.size w (w6.setCell ⟨g5,0,none⟩ .nilIface):=((EQ.out.trans (DT.out.mono EQ.out.size)).trans (D8.out.mono (Nat.le_trans EQ.out.size hs5))).setCell VM.out.2.2.1 _
 clear v5 f5 l5 v4 ax gJ iU yh gI Hy Mo gH
 generalize w6.setCell ⟨g5,0,none⟩ .nilIface=w7 at *
 have vJ:=qh hb2
 have gK:=qh hb4
 have gL:=qh hb5
 have Es:=qh Gs
 have R5:Hid (Calls Tryz.prog 17 #[.agg #[.pointer (some ⟨a,0,none⟩)],.agg #[.int .i64 0,.int .i64 0,.int .i64 1,.int .i64 0,.slice none 0 0]] w7 fun e w'=>e=.returned (.tuple #[])∧BO w' w2.heap.size img av∧Touch (Bo w7 a img) w7 w'):=Zi w7 w2.heap.size a img gl c Va uf (by have:=iT.out;omega)
 have MP:=qh (Ce Va hb4 (by decide) (by decide))
 have QD:=qh (Ce Va hb5 (by decide) (by decide))
 have iI:Hid (∀ x,Bo w7 a img x→w.heap.size≤x):=fun x hx=>by
  have hw2:w.heap.size≤w2.heap.size:=by have:=HB1.out.size;have:=iT.out;omega
  rcases hx with e|hx
  · have:=Va.2.2.2.1;rw [e];omega
  · obtain ⟨cs,_,h9⟩:=Gg Va.2.1 x hx
    omega
 obtain ⟨x0,x1,x2,x3,x4⟩:=Bn hb2
 have x5:w7.cell? ⟨g5,0,none⟩=some .nilIface:=hb5.at 0 _ rfl
 clear hb2 hb4 hb5 Gs hs5 hs6 Y2 Va uf bg
 go_upto_region 13 with (first
  | (go_at_call 16;(with_reducible refine (ag.out _).mono ?_);rintro e w8 ⟨rfl,hw⟩;rw [hw];clear hw w8)
  | (go_at_call 17;(with_reducible refine R5.out.mono ?_);rintro e w8 ⟨rfl,ho,hT⟩;have IU:=qh ho;have Js:=qh hT;clear ho hT))
 rename World=>w8
 have Mr:Hid (AL w8 g4 _ _):=(Js.out.block gK.out.lt MP.out).trans gK.out
 have Xq:Hid (AL w8 g5 _ _):=(Js.out.block gL.out.lt QD.out).trans gL.out
 have y4:w8.cell? ⟨g4,0,none⟩=some (.pointer (some ⟨img,0,none⟩)):=Mr.out.at 0 _ rfl
 have y5:w8.cell? ⟨g5,0,none⟩=some .nilIface:=Xq.out.at 0 _ rfl
 have e4:=Mr.out.free 0
 have e5:=Xq.out.free 0
 have m4:=Mr.out.lt
 have m5:=Xq.out.lt
 have hne:g4≠g5:=VM.out.2.2.2.2.2
 clear x0 x1 x2 x3 x4 x5 R5
 go_wp2_with fail
 have hbt:=vI.out
 have hzz:=iT.out
 have yj:Touch (fun x=>x=g4) w8 (w8.setCell ⟨g4,0,none⟩ (.pointer (some ⟨img,0,none⟩))):=Touch.BZ (R:=fun x=>x=g4) (p:=⟨g4,0,none⟩) rfl
 have yl:Touch (fun x=>x=g5) (w8.setCell ⟨g4,0,none⟩ (.pointer (some ⟨img,0,none⟩))) ((w8.setCell ⟨g4,0,none⟩ (.pointer (some ⟨img,0,none⟩))).setCell ⟨g5,0,none⟩ .nilIface):=Touch.BZ (R:=fun x=>x=g5) (p:=⟨g5,0,none⟩) rfl
 have Z5:=(IU.out.Sn yj (by omega)).Sn yl (by omega)
 have vK:AL ((w8.setCell ⟨g4,0,none⟩ (.pointer (some ⟨img,0,none⟩))).setCell ⟨g5,0,none⟩ .nilIface) g4 #[.pointer (some ⟨img,0,none⟩)] 25:=(Mr.out.set 0 (.pointer (some ⟨img,0,none⟩))).far (fun e=>hne e.symm) 0 _
 have Ey:AL ((w8.setCell ⟨g4,0,none⟩ (.pointer (some ⟨img,0,none⟩))).setCell ⟨g5,0,none⟩ .nilIface) g5 #[.nilIface] 27:=(Xq.out.far hne 0 _).set 0 _
 have Kr:Below w.heap.size w ((w8.setCell ⟨g4,0,none⟩ (.pointer (some ⟨img,0,none⟩))).setCell ⟨g5,0,none⟩ .nilIface):=((Es.out.trans (Js.out.below iI.out Es.out.size)).setCell VM.out.2.1 _).setCell VM.out.2.2.1 _
 have hw2:w.heap.size≤w2.heap.size:=by have:=HB1.out.size;omega
 clear y4 y5 e4 e5 m4 m5 hbt hzz yj yl iF
 generalize (w8.setCell ⟨g4,0,none⟩ (.pointer (some ⟨img,0,none⟩))).setCell ⟨g5,0,none⟩ .nilIface=w9 at *
 refine leaves_cons (f:=11) (args:=#[.pointer (some ⟨g4,0,none⟩),.pointer (some ⟨g5,0,none⟩)]) (by simp) (by simp [go_sem]) ?_
 refine (Zk g4 g5 _).mono ?_
 rintro e u' D9 ⟨rfl,rfl,Gt⟩
 have c4:D9.cell? ⟨g4,0,none⟩=some (.pointer (some ⟨img,0,none⟩)):=(vK.below Gt vK.lt).at 0 _ rfl
 have c5:D9.cell? ⟨g5,0,none⟩=some .nilIface:=(Ey.below Gt Ey.lt).at 0 _ rfl
 have hfin:(∃ a,Ending.returned (.tuple #[.pointer (some ⟨img,0,none⟩),.nilIface])=.returned (.tuple #[.pointer (some ⟨a,0,none⟩),.nilIface])∧BO D9 w.heap.size a av)∧Below w.heap.size w D9:=⟨⟨img,rfl,(Z5.below' Gt).low hw2⟩,Kr.trans (Gt.mono Kr.size)⟩
 have NN:=qh hfin
 clear Z5 vK Ey Kr hw2 Gt hfin hne Mr Xq Js IU iI MP QD Es vJ gK gL iT VM vI ag EQ DT D8 HB1 HB2 HB3 TY VL og
 refine Sm (R:=fun e w'=>(∃ a,e=.returned (.tuple #[.pointer (some ⟨a,0,none⟩),.nilIface])∧BO w' w.heap.size a av)∧Below w.heap.size w w') Tryz.results7 rfl rfl c4 c5 NN.out
end
end Go.Proofs.YthblbddmcdnllaaGreatDoor
