/- A part of the proof: WLayAll. -/
import Derived.Test.YtpenklpdjpkigaaGreatX33
import Derived.Test.YtpenklpdjpkigaaGreatX34
import Derived.Test.YtpenklpdjpkigaaGreatY1
set_option maxHeartbeats 6400000
set_option linter.unusedVariables false
set_option linter.unusedSimpArgs false
namespace Go.Proofs.YtpenklpdjpkigaaGreat
section
open Go.RowKit Go.Shelf
attribute [local go_sem] Oper.semAt_some
def LZ (t d ds dv mi mo:Int):Array Value:=#[.int .i64 0,.int .i64 0,.int .i64 1,.int .i64 0,.int .i64 8,.int .i64 t,.int .i64 d,.int .i64 ds,.int .i64 dv,.int .i64 mi,.int .i64 mo]
def im2:List UInt8:=Dq (Dq Fs 0 1) 1 3
theorem Y5:im2.length=2048:=by unfold im2;rw [Dh,Dh,En]
theorem Tu:V3.length=2048:=by unfold V3;rw [Dh,Dh,Dh,Dh,En]
def MZ (a g2 g3:Nat) (w':World):Prop:=(w'.cell? ⟨g3,0,none⟩=some (.int .i64 0)∧w'.cell? ⟨g3,1,none⟩=some (.int .i64 0)∧w'.cell? ⟨g3,2,none⟩=some (.int .i64 1)∧w'.cell? ⟨g3,3,none⟩=some (.int .i64 0)∧w'.cell? ⟨g3,4,none⟩=some (.slice none 0 0))∧w'.cell? ⟨g2,0,none⟩=some (.pointer (some ⟨a,0,none⟩))
theorem MZ.set {a g2 g3 g4 o:Nat} {w':World} {u:Value} (hg:g2≠g4∧g3≠g4) (h:MZ a g2 g3 w'):MZ a g2 g3 (w'.setCell ⟨g4,o,none⟩ u):=by
 obtain ⟨⟨h0,h1,h2,h3,h4⟩,h5⟩:=h
 have k:∀ b i,b≠g4→(w'.setCell ⟨g4,o,none⟩ u).cell? ⟨b,i,none⟩=w'.cell? ⟨b,i,none⟩:=fun b i hb=>World.cell?_of_block (a:=⟨b,i,none⟩) (Below.heap_setCell w' ⟨g4,o,none⟩ u b hb)
 exact ⟨⟨(k g3 0 hg.2).trans h0,(k g3 1 hg.2).trans h1,(k g3 2 hg.2).trans h2,(k g3 3 hg.2).trans h3,(k g3 4 hg.2).trans h4⟩,(k g2 0 hg.1).trans h5⟩
theorem QP {w:World} {g i j:Nat} {cs:Array Value} {T:TypeId} (h:AP w g cs T) (u v:Value):AP ((w.setCell ⟨g,i,none⟩ u).setCell ⟨g,j,none⟩ v) g ((cs.setIfInBounds i u).setIfInBounds j v) T∧Touch (fun x=>x=g) w ((w.setCell ⟨g,i,none⟩ u).setCell ⟨g,j,none⟩ v) :=
 ⟨(h.set i u).set j v,(Touch.Dc (R:=fun x=>x=g) (p:=⟨g,i,none⟩) rfl).trans (Touch.Dc (R:=fun x=>x=g) (p:=⟨g,j,none⟩) rfl)⟩
set_option maxRecDepth 100000 in
theorem pE (w:World) (base a img gl c:Nat) (h:Bn w base a img gl 7 c 0 Fs) (hc:7≤c) (hb:base≤w.heap.size) :
 Calls Tryz.prog 41 #[.agg #[.pointer (some ⟨a,0,none⟩)],Fz] w fun e w'=>e=.returned (.tuple #[])∧Bo w' base img rX∧Touch (Cg w a img) w w':=by
 have Xp:Hid (∀ w' k bs,Bn w' base a img gl 7 c k bs→Calls Tryz.prog 72 #[.pointer (some ⟨a,0,none⟩)] w' fun e w''=>e=.returned (.pointer (some ⟨img,0,none⟩))∧w''=w'):=fun w' k bs hs=>MS w' a img 7 c _ _ hs.1
 have IX:Hid (∀ w' k bs,bs.length=2048→Bn w' base a img gl 7 c k bs→Calls Tryz.prog 42 #[.pointer (some ⟨img,0,none⟩)] w' fun e w''=>e=.returned (.int .i64 8)∧w''=w'):=fun w' k bs hbl hs=>by
  obtain ⟨A,cc,h1,-⟩:=hs.2.1.QM
  have h9:=CR w' img A bs.length cc h1 (by rw [hbl];decide)
  rw [hbl] at h9
  refine h9.mono ?_
  rintro e w2 ⟨rfl,hw⟩
  exact ⟨rfl,hw.symm⟩
 have rQ:=qh (fun w'=>Tn w')
 have YI:Hid (∀ w',Bn w' base a img gl 7 c 0 Fs→base≤w'.heap.size→Calls Tryz.prog 73 #[.agg #[.pointer (some ⟨a,0,none⟩)],.slice none 0 0] w' fun e w''=>e=.returned (.tuple #[.int .i64 1,.int .i64 2])∧Bn w'' base a img gl 7 c 2 im2∧Touch (Cg w' a img) w' w''):=fun w' hs hb=>jU w' base a img gl 7 c 0 Fs hs (by omega) hc (by omega) (by rw [En];omega) (by rw [En];omega) hb
 have YU:=qh (fun w'=>rY w')
 have HDT:Hid (∀ w' A cc,Bn w' base a img gl 7 c 2 im2→base≤w'.heap.size→Calls Tryz.prog 74 #[.pointer (some ⟨a,0,none⟩),.slice A 0 cc] w' fun e w''=>e=.returned (.tuple #[.int .i64 3,.int .i64 4,.nilIface])∧Bn w'' base a img gl 7 c 4 V3∧Touch (Cg w' a img) w' w''):=fun w' A cc hs hb=>bv w' base a img gl 7 c 2 im2 A cc hs (by omega) hc (by omega) (by rw [Y5];omega) (by rw [Y5];omega) hb
 have HCN:Hid (∀ w',Bn w' base a img gl 7 c 4 V3→Calls Tryz.prog 77 #[.agg #[.pointer (some ⟨a,0,none⟩)]] w' fun e w''=>(∃ g,e=.returned (.slice (some ⟨g,0,none⟩) 8 8)∧w'.heap.size≤g∧AP w'' g (IL 5) 3)∧Below w'.heap.size w' w''):=fun w' hs=>bX w' base a img gl 7 c 4 V3 hs Tu (by omega)
 have HMT:Hid (∀ w' gc,Bn w' base a img gl 7 c 4 V3→base≤w'.heap.size→AP w' gc (IL 5) 3→Calls Tryz.prog 76 #[.pointer (some ⟨a,0,none⟩),.slice (some ⟨gc,0,none⟩) 8 8] w' fun e w''=>e=.returned (.tuple #[.int .i64 7,.int .i64 5,.nilIface])∧Bn w'' base a img gl 7 c 7 (Jd V3)∧Touch (Cg w' a img) w' w''):=fun w' gc hs hb hX=>cO w' base a img gl c V3 gc hs hc Tu hb hX
 have Ry:Hid (∀ w',Calls Tryz.prog 78 #[.agg (LZ 1 2 3 4 7 5)] w' fun e w''=>(∃ g,e=.returned (.tuple #[.slice (some ⟨g,0,none⟩) 244 244,.int .i64 0])∧w'.heap.size≤g∧w''.heap[g]? = some (.cells (AB Au (Dv Vk)).toArray 5 (0,0)))∧Below w'.heap.size w' w''):=fun w'=>by
  refine (QF w' Vk (by decide) (by decide)).mono ?_
  rintro e w'' ⟨h1,h2⟩
  unfold Hu at h1
  rw [if_pos (by decide)] at h1
  exact ⟨h1,h2⟩
 have I1:Hid (∀ w1 w2 g,Bn w1 base a img gl 7 c 7 (Jd V3)→Below w1.heap.size w1 w2→w1.heap.size≤g→w2.heap[g]? = some (.cells (AB Au (Dv Vk)).toArray 5 (0,0))→Calls Tryz.prog 79 #[.pointer (some ⟨img,0,none⟩),.int .i64 0,.int .i64 1,.slice (some ⟨g,0,none⟩) 244 244] w2 fun e w'=>e=.returned .nilIface∧Bo w' base img rX∧Touch (Cg w1 a img) w2 w'):=fun w1 w2 g hs hB hg hc=>by
  have hl4:(Jd V3).length=2048:=by unfold Jd;rw [MU,MU,Dh,Tu]
  have ho:w2.ownsRow 0 5 1 (.slice (some ⟨g,0,none⟩) 244 244) 244 (AB Au (Dv Vk)):=⟨by rw [BI];rfl,.inr ⟨g,244,_,rfl,Nat.zero_le _,hc,Nat.le_refl _,by decide,by rw [List.size_toArray,BI];rfl,by rw [List.toList_toArray,List.take_of_length_le (by rw [BI];exact Nat.le_refl _)]⟩⟩
  have h9:=KJ w2 (fun b=>b<w2.heap.size) base img (Jd V3) 0 1 (.slice (some ⟨g,0,none⟩) 244 244) (Dv Vk) (fun b hb=>hb) (hs.below hB).2.1 (by rw [hl4];decide) (Gi ho (by rfl)) (by decide) (by omega) (by omega) (by omega) (by omega)
  refine h9.mono ?_
  rintro e w' ⟨h1,h2,h3⟩
  exact ⟨h1,h2,h3.weak (fun x hx=>C8 hs.2.1 hB x (.inr hx))⟩
 have HH:=qh h
 have IG:=qh hb
 have ET:=qh h.Y3
 have QZ:=qh h.2.1
 clear h hc hb
 obtain ⟨k2,k3,kB,kz⟩:=AP.two w #[.pointer (some ⟨a,0,none⟩)] #[.int .i64 0,.int .i64 0,.int .i64 1,.int .i64 0,.slice none 0 0] 98 45
 clear kz
 unfold Fz at YU ⊢
 have Ry:Hid (∀ w',Calls Tryz.prog 78 #[.agg #[.int .i64 0,.int .i64 0,.int .i64 1,.int .i64 0,.int .i64 8,.int .i64 1,.int .i64 2,.int .i64 3,.int .i64 4,.int .i64 7,.int .i64 5]] w' fun e w''=>(∃ g,e=.returned (.tuple #[.slice (some ⟨g,0,none⟩) 244 244,.int .i64 0])∧w'.heap.size≤g∧w''.heap[g]? = some (.cells (AB Au (Dv Vk)).toArray 5 (0,0)))∧Below w'.heap.size w' w''):=Ry
 go_enter Tryz.func41,Tryz.ntmps41
 go_upto_region 1 with fail
 generalize (w.alloc (.cells #[.pointer (some ⟨a,0,none⟩)] 98)).alloc (.cells #[.int .i64 0,.int .i64 0,.int .i64 1,.int .i64 0,.slice none 0 0] 45)=w1 at *
 have HB1:=qh kB
 obtain ⟨g3,hg3⟩:∃ q,w.heap.size+1=q:=⟨_,rfl⟩
 rw [hg3] at k3 ⊢
 obtain ⟨g2,hg2⟩:∃ q,w.heap.size=q:=⟨_,rfl⟩
 have Ux:=qh hg2
 rw [hg2] at k2 ⊢
 have iy:=qh k2
 have jA:=qh k3
 have I5:=qh (HH.out.below kB)
 have hs1:=kB.size
 have ABP:Hid (g2<w1.heap.size∧g3<w1.heap.size):=⟨k2.lt,k3.lt⟩
 clear k2 k3 kB hg2 hg3
 go_cut [4] (fun s4 wx=>∃ g4,s4=.pointer (some ⟨g4,0,none⟩)∧Hid (AP wx g4 (LZ 0 0 0 0 0 0) 69)∧Hid (Below w1.heap.size w1 wx)∧Hid (w1.heap.size≤g4))
 case first =>
  obtain ⟨x0,x1,x2,x3,x4⟩:=Cc jA.out
  have y0:w1.cell? ⟨g2,0,none⟩=some (.pointer (some ⟨a,0,none⟩)):=iy.out.at 0 _ rfl
  have hk0:=(Below.refl w1.heap.size w1).drew
  have hk1:=fun o=>((Below.refl w1.heap.size w1).alloc (Nat.le_refl _) o).drew
  go_region_held3 (fun w'=>w'.cell? ⟨g3,0,none⟩=some (.int .i64 0)∧w'.cell? ⟨g3,1,none⟩=some (.int .i64 0)∧w'.cell? ⟨g3,2,none⟩=some (.int .i64 1)∧w'.cell? ⟨g3,3,none⟩=some (.int .i64 0)∧w'.cell? ⟨g2,0,none⟩=some (.pointer (some ⟨a,0,none⟩))) (go_keep)
   (first
    | (go_at_call 72;refine (Xp.out _ 0 Fs (I5.out.below (by first|exact hk0|exact hk1 _))).mono ?_;rintro e w2 ⟨rfl,hw⟩;rw [hw];clear hw w2)
    | (go_at_call 42;refine (IX.out _ 0 Fs En (I5.out.below (by first|exact hk0|exact hk1 _))).mono ?_;rintro e w2 ⟨rfl,hw⟩;rw [hw];clear hw w2))
  all_goals (go_wp2_with fail;go_meet;exact ⟨w1.heap.size,rfl,(AP.new w1 (LZ 0 0 0 0 0 0) 69:_),hk1 _,Nat.le_refl _⟩)
 rename World=>w3
 obtain ⟨g4,h4,bU,HB3,YL⟩:=hcut
 obtain rfl:=h4.symm
 clear h4
 have Qz:=qh (I5.out.below HB3.out)
 have cz:=qh (iy.out.below HB3.out iy.out.lt)
 have dA:=qh (jA.out.below HB3.out jA.out.lt)
 have hs3:=HB3.out.size
 have ABQ:=qh (YI.out w3 Qz.out (by have:=IG.out;omega))
 have y0:w3.cell? ⟨g2,0,none⟩=some (.pointer (some ⟨a,0,none⟩)):=cz.out.at 0 _ rfl
 have y4:w3.cell? ⟨g3,4,none⟩=some (.slice none 0 0):=dA.out.at 4 _ rfl
 have Nv:=qh (Dp Qz.out bU.out (by decide) (by decide))
 have Ql:=qh (Dp Qz.out cz.out (by decide) (by decide))
 have aA:=qh (Dp Qz.out dA.out (by decide) (by decide))
 clear YI IX I5 iy jA
 go_upto_region 4 with (go_at_call 73;(with_reducible refine ABQ.out.mono ?_);rintro e w4 ⟨rfl,ha,hT⟩;have HA4:=qh ha;have hb4:AP w4 g4 (LZ 0 0 0 0 0 0) 69:=(hT.block bU.out.lt Nv.out).trans bU.out;have XM:=qh hT;have v5:w4.cell? ⟨g4,5,none⟩=some (.int .i64 0):=hb4.at 5 _ rfl;have v6:w4.cell? ⟨g4,6,none⟩=some (.int .i64 0):=hb4.at 6 _ rfl;have f5:=hb4.free 5;have f6:=hb4.free 6;have l4:=hb4.lt;have Tm:=qh hb4;clear ha hT hb4)
 have wQ:Hid (Touch (Cg w a img) w w4):=by
  have yK:=HB1.out.trans (HB3.out.mono HB1.out.size)
  exact (Touch.of_below yK).trans (XM.out.weak (C8 QZ.out yK))
 obtain ⟨hb5,Ja⟩:=QP (i:=5) (j:=6) Tm.out (.int .i64 1) (.int .i64 2)
 have hb5:AP ((w4.setCell ⟨g4,5,none⟩ (.int .i64 1)).setCell ⟨g4,6,none⟩ (.int .i64 2)) g4 (LZ 1 2 0 0 0 0) 69:=hb5
 have OC:=qh (HA4.out.touch Ja Tm.out (by decide) (by decide) (by decide) (by decide))
 have wR:g2≠g4:=fun e=>by have:=ABP.out.1;have:=YL.out;omega
 have wS:g3≠g4:=fun e=>by have:=ABP.out.2;have:=YL.out;omega
 have Ma:Hid (AP ((w4.setCell ⟨g4,5,none⟩ (.int .i64 1)).setCell ⟨g4,6,none⟩ (.int .i64 2)) g2 _ _):=(Ja.block (Nat.lt_of_lt_of_le cz.out.lt XM.out.size) wR).trans ((XM.out.block cz.out.lt Ql.out).trans cz.out)
 have Tv:Hid (AP ((w4.setCell ⟨g4,5,none⟩ (.int .i64 1)).setCell ⟨g4,6,none⟩ (.int .i64 2)) g3 _ _):=(Ja.block (Nat.lt_of_lt_of_le dA.out.lt XM.out.size) wS).trans ((XM.out.block dA.out.lt aA.out).trans dA.out)
 have oL:Hid (w.heap.size≤g4):=by show _≤_;have:=YL.out;have:=HB1.out.size;omega
 have wT:Hid (Touch (Cg w a img) w ((w4.setCell ⟨g4,5,none⟩ (.int .i64 1)).setCell ⟨g4,6,none⟩ (.int .i64 2))):=wQ.out.trans' Ja (fun x e=>.inr (by rw [e];exact oL.out))
 have hs5:base≤w4.heap.size:=by have:=IG.out;have:=wQ.out.size;omega
 rw [← (show ((w4.setCell ⟨g4,5,none⟩ (.int .i64 1)).setCell ⟨g4,6,none⟩ (.int .i64 2)).heap.size=w4.heap.size by simp)] at hs5
 clear v5 v6 f5 f6 l4 y0 y4 Ja XM wQ ABQ HA4 Tm cz dA Qz Nv Ql aA hs1 hs3
 generalize (w4.setCell ⟨g4,5,none⟩ (.int .i64 1)).setCell ⟨g4,6,none⟩ (.int .i64 2)=w5 at *
 have Q4:=qh hb5
 have Q5:=qh (And.intro wR wS)
 have yJ:=qh hs5
 clear hb5 wR wS hs5
 have Nv:=qh (Dp OC.out Q4.out (by decide) (by decide))
 have Ql:=qh (Dp OC.out Ma.out (by decide) (by decide))
 have aA:=qh (Dp OC.out Tv.out (by decide) (by decide))
 go_cut [5] (fun s5 wx=>s5=.nilIface∧Hid (AP wx g4 (LZ 1 2 3 4 0 0) 69)∧Hid (Bn wx base a img gl 7 c 4 V3)∧Hid (Touch (fun x=>Cg w5 a img x∨x=g4) w5 wx))
 case first =>
  obtain ⟨x0,x1,x2,x3,x4⟩:=Cc Tv.out
  have y0:w5.cell? ⟨g2,0,none⟩=some (.pointer (some ⟨a,0,none⟩)):=Ma.out.at 0 _ rfl
  have hk5:=(Below.refl w5.heap.size w5).drew
  have HP:Hid (∀ w',Below w5.heap.size w5 w'→(w'.cell? ⟨g3,0,none⟩=some (.int .i64 0)∧w'.cell? ⟨g3,1,none⟩=some (.int .i64 0)∧w'.cell? ⟨g3,2,none⟩=some (.int .i64 1)∧w'.cell? ⟨g3,3,none⟩=some (.int .i64 0)∧w'.cell? ⟨g3,4,none⟩=some (.slice none 0 0))∧w'.cell? ⟨g2,0,none⟩=some (.pointer (some ⟨a,0,none⟩))):=fun w' hB=>⟨Cc (Tv.out.below hB Tv.out.lt),(Ma.out.below hB Ma.out.lt).at 0 _ rfl⟩
  have HQ:Hid (∀ w',Touch (Cg w5 a img) w5 w'→AP w' g2 _ _∧AP w' g3 _ _∧AP w' g4 _ _):=fun w' hT=>⟨(hT.block Ma.out.lt Ql.out).trans Ma.out,(hT.block Tv.out.lt aA.out).trans Tv.out,(hT.block Q4.out.lt Nv.out).trans Q4.out⟩
  go_region_held3 (fun w'=>(w'.cell? ⟨g3,0,none⟩=some (.int .i64 0)∧w'.cell? ⟨g3,1,none⟩=some (.int .i64 0)∧w'.cell? ⟨g3,2,none⟩=some (.int .i64 1)∧w'.cell? ⟨g3,3,none⟩=some (.int .i64 0)∧w'.cell? ⟨g3,4,none⟩=some (.slice none 0 0))∧w'.cell? ⟨g2,0,none⟩=some (.pointer (some ⟨a,0,none⟩))) (first|exact MZ.set Q5.out ⟨⟨x0,x1,x2,x3,x4⟩,y0⟩|exact MZ.set Q5.out (MZ.set Q5.out ⟨⟨x0,x1,x2,x3,x4⟩,y0⟩)|go_keep)
   (first
    | (go_at_call 75;refine (YU.out _).mono ?_;rintro e w6 ⟨⟨Ar,cr,rfl⟩,EG⟩;have Nq:=hk5.trans (EG.mono hk5.size);clear x0 x1 x2 x3 x4 y0;obtain ⟨⟨x0,x1,x2,x3,x4⟩,y0⟩:=HP.out _ Nq)
    | (go_at_call 74;refine (HDT.out w6 Ar cr (OC.out.below Nq) (Nat.le_trans yJ.out Nq.size)).mono ?_;rintro e w7 ⟨rfl,ha7,rZ⟩;have jl:Touch (Cg w5 a img) w5 w7:=(Touch.of_below Nq).trans (rZ.weak (C8 OC.out.2.1 Nq));clear x0 x1 x2 x3 x4 y0;obtain ⟨hb2,hb3,hb4⟩:=HQ.out _ jl;obtain ⟨x0,x1,x2,x3,x4⟩:=Cc hb3;have y0:w7.cell? ⟨g2,0,none⟩=some (.pointer (some ⟨a,0,none⟩)):=hb2.at 0 _ rfl;have v7:w7.cell? ⟨g4,7,none⟩=some (.int .i64 0):=hb4.at 7 _ rfl;have v8:w7.cell? ⟨g4,8,none⟩=some (.int .i64 0):=hb4.at 8 _ rfl;have f7:=hb4.free 7;have f8:=hb4.free 8;have l4:=hb4.lt))
  all_goals (have I6:=QP (i:=7) (j:=8) hb4 (.int .i64 3) (.int .i64 4);go_wp2_with fail;go_meet;exact ⟨rfl,I6.1,ha7.touch I6.2 hb4 (by decide) (by decide) (by decide) (by decide),(jl.weak (fun x hx=>.inl hx)).trans (I6.2.weak (fun x hx=>.inr hx))⟩)
 rename World=>w8
 obtain ⟨h5,Q6,Xv,Q0⟩:=hcut
 obtain rfl:=h5.symm
 clear h5
 have hp8:∀ x,x=g2∨x=g3→x<w5.heap.size→¬ Cg w5 a img x→w8.heap[x]? = w5.heap[x]? := fun x hx hl hn=>Q0.out.block hl (fun e=>by rcases e with e|e;exact hn e;rcases hx with rfl|rfl;exact Q5.out.1 e;exact Q5.out.2 e)
 have Tw:Hid (AP w8 g2 _ _):=(hp8 g2 (.inl rfl) Ma.out.lt Ql.out).trans Ma.out
 have Xw:Hid (AP w8 g3 _ _):=(hp8 g3 (.inr rfl) Tv.out.lt aA.out).trans Tv.out
 have Xu:Hid (Touch (Cg w a img) w w8):=wT.out.trans' Q0.out (fun x hx=>by
  rcases hx with hx|hx
  · exact .inl (GN QZ.out wT.out ET.out x hx)
  · exact .inr (by rw [hx];exact oL.out))
 have HS8:Hid (base≤w8.heap.size):=Nat.le_trans yJ.out Q0.out.size
 clear hp8 Q0 wT yJ Nv Ql aA Ma Tv Q4 OC HDT YU
 have Nv:=qh (Dp Xv.out Q6.out (by decide) (by decide))
 have Ql:=qh (Dp Xv.out Tw.out (by decide) (by decide))
 have aA:=qh (Dp Xv.out Xw.out (by decide) (by decide))
 go_upto_region 6 with (go_at_call 40;(with_reducible refine (rQ.out _).mono ?_);rintro e w9 ⟨rfl,hw⟩;rw [hw];clear hw w9)
 go_cut [5] (fun s5 wx=>s5=.nilIface∧Hid (AP wx g4 (LZ 1 2 3 4 7 5) 69)∧Hid (Bn wx base a img gl 7 c 7 (Jd V3))∧Hid (Touch (fun x=>Cg w8 a img x∨x=g4) w8 wx))
 case first =>
  obtain ⟨x0,x1,x2,x3,x4⟩:=Cc Xw.out
  have y0:w8.cell? ⟨g2,0,none⟩=some (.pointer (some ⟨a,0,none⟩)):=Tw.out.at 0 _ rfl
  have hk5:=(Below.refl w8.heap.size w8).drew
  have HP:Hid (∀ w',Below w8.heap.size w8 w'→(w'.cell? ⟨g3,0,none⟩=some (.int .i64 0)∧w'.cell? ⟨g3,1,none⟩=some (.int .i64 0)∧w'.cell? ⟨g3,2,none⟩=some (.int .i64 1)∧w'.cell? ⟨g3,3,none⟩=some (.int .i64 0)∧w'.cell? ⟨g3,4,none⟩=some (.slice none 0 0))∧w'.cell? ⟨g2,0,none⟩=some (.pointer (some ⟨a,0,none⟩))):=fun w' hB=>⟨Cc (Xw.out.below hB Xw.out.lt),(Tw.out.below hB Tw.out.lt).at 0 _ rfl⟩
  have HQ:Hid (∀ w',Touch (Cg w8 a img) w8 w'→AP w' g2 _ _∧AP w' g3 _ _∧AP w' g4 _ _):=fun w' hT=>⟨(hT.block Tw.out.lt Ql.out).trans Tw.out,(hT.block Xw.out.lt aA.out).trans Xw.out,(hT.block Q6.out.lt Nv.out).trans Q6.out⟩
  go_region_held3 (fun w'=>(w'.cell? ⟨g3,0,none⟩=some (.int .i64 0)∧w'.cell? ⟨g3,1,none⟩=some (.int .i64 0)∧w'.cell? ⟨g3,2,none⟩=some (.int .i64 1)∧w'.cell? ⟨g3,3,none⟩=some (.int .i64 0)∧w'.cell? ⟨g3,4,none⟩=some (.slice none 0 0))∧w'.cell? ⟨g2,0,none⟩=some (.pointer (some ⟨a,0,none⟩))) (first|exact MZ.set Q5.out ⟨⟨x0,x1,x2,x3,x4⟩,y0⟩|exact MZ.set Q5.out (MZ.set Q5.out ⟨⟨x0,x1,x2,x3,x4⟩,y0⟩)|go_keep)
   (first
    | (go_at_call 77;refine (HCN.out _ (Xv.out.below hk5)).mono ?_;rintro e w6 ⟨⟨gc,rfl,hgc,hbc⟩,EG⟩;have Nq:=hk5.trans (EG.mono hk5.size);clear x0 x1 x2 x3 x4 y0;obtain ⟨⟨x0,x1,x2,x3,x4⟩,y0⟩:=HP.out _ Nq)
    | (go_at_call 76;refine (HMT.out w6 gc (Xv.out.below Nq) (Nat.le_trans HS8.out Nq.size) hbc).mono ?_;rintro e w7 ⟨rfl,ha7,rZ⟩;have jl:Touch (Cg w8 a img) w8 w7:=(Touch.of_below Nq).trans (rZ.weak (C8 Xv.out.2.1 Nq));clear x0 x1 x2 x3 x4 y0;obtain ⟨hb2,hb3,hb4⟩:=HQ.out _ jl;obtain ⟨x0,x1,x2,x3,x4⟩:=Cc hb3;have y0:w7.cell? ⟨g2,0,none⟩=some (.pointer (some ⟨a,0,none⟩)):=hb2.at 0 _ rfl;have v7:w7.cell? ⟨g4,9,none⟩=some (.int .i64 0):=hb4.at 9 _ rfl;have v8:w7.cell? ⟨g4,10,none⟩=some (.int .i64 0):=hb4.at 10 _ rfl;have f7:=hb4.free 9;have f8:=hb4.free 10;have l4:=hb4.lt))
  all_goals (have I6:=QP (i:=9) (j:=10) hb4 (.int .i64 7) (.int .i64 5);go_wp2_with fail;go_meet;exact ⟨rfl,I6.1,ha7.touch I6.2 hb4 (by decide) (by decide) (by decide) (by decide),(jl.weak (fun x hx=>.inl hx)).trans (I6.2.weak (fun x hx=>.inr hx))⟩)
 rename World=>CW
 obtain ⟨h5,KM,Vj,VJ⟩:=hcut
 obtain rfl:=h5.symm
 clear h5
 have rf:Hid (AP CW g2 _ _):=(VJ.out.block Tw.out.lt (fun e=>by rcases e with e|e;exact Ql.out e;exact Q5.out.1 e)).trans Tw.out
 have R7:Hid (Touch (Cg w a img) w CW):=Xu.out.trans' VJ.out (fun x hx=>by
  rcases hx with hx|hx
  · exact .inl (GN QZ.out Xu.out ET.out x hx)
  · exact .inr (by rw [hx];exact oL.out))
 clear VJ Xu HS8 Nv Ql aA Tw Xw Q6 Xv HCN HMT Q5 oL
 have v0:CW.cell? ⟨g4,0,none⟩=some (.int .i64 0):=KM.out.at 0 _ rfl
 have v1:CW.cell? ⟨g4,1,none⟩=some (.int .i64 0):=KM.out.at 1 _ rfl
 have v2:CW.cell? ⟨g4,2,none⟩=some (.int .i64 1):=KM.out.at 2 _ rfl
 have v3:CW.cell? ⟨g4,3,none⟩=some (.int .i64 0):=KM.out.at 3 _ rfl
 have v4:CW.cell? ⟨g4,4,none⟩=some (.int .i64 8):=KM.out.at 4 _ rfl
 have v5:CW.cell? ⟨g4,5,none⟩=some (.int .i64 1):=KM.out.at 5 _ rfl
 have v6:CW.cell? ⟨g4,6,none⟩=some (.int .i64 2):=KM.out.at 6 _ rfl
 have v7:CW.cell? ⟨g4,7,none⟩=some (.int .i64 3):=KM.out.at 7 _ rfl
 have v8:CW.cell? ⟨g4,8,none⟩=some (.int .i64 4):=KM.out.at 8 _ rfl
 have v9:CW.cell? ⟨g4,9,none⟩=some (.int .i64 7):=KM.out.at 9 _ rfl
 have v10:CW.cell? ⟨g4,10,none⟩=some (.int .i64 5):=KM.out.at 10 _ rfl
 go_upto_region 9 with (first
  | (go_at_call 40;(with_reducible refine (rQ.out _).mono ?_);rintro e w9 ⟨rfl,hw⟩;rw [hw];clear hw w9)
  | (go_at_call 78;(with_reducible refine (Ry.out _).mono ?_);rintro e Jj ⟨⟨gs,rfl,hgs,hcs⟩,hB⟩;have HGS:=qh hgs;have uB:=qh hcs;have TE:=qh hB;clear hgs hcs hB))
 rename World=>Jj
 have ABR:=qh (Vj.out.below TE.out)
 have y0:Jj.cell? ⟨g2,0,none⟩=some (.pointer (some ⟨a,0,none⟩)):=(rf.out.below TE.out rf.out.lt).at 0 _ rfl
 have ABS:=qh (Xp.out Jj 7 (Jd V3) ABR.out)
 have ABT:=qh (I1.out CW Jj gs Vj.out TE.out HGS.out uB.out)
 have Y4:Hid (Touch (Cg w a img) w Jj):=R7.out.trans (Touch.of_below TE.out)
 clear v0 v1 v2 v3 v4 v5 v6 v7 v8 v9 v10 Xp I1 Ry HGS uB
 go_wp2_with (first
  | (go_at_call 72;(with_reducible refine ABS.out.mono ?_);rintro e w9 ⟨rfl,hw⟩;rw [hw];clear hw w9)
  | (go_at_call 79;(with_reducible refine ABT.out.mono ?_);rintro e Ch ⟨rfl,ho,hT⟩;have wC:=qh ho;have ADn:=qh hT;clear ho hT)
  | (go_at_call 40;(with_reducible refine (rQ.out _).mono ?_);rintro e IY ⟨rfl,hw⟩;rw [hw];clear hw IY))
 refine bodyPost_end (results_none rfl _ _ _) rfl ⟨rfl,wC.out,Y4.out.trans (ADn.out.weak (GN QZ.out R7.out ET.out))⟩
end
end Go.Proofs.YtpenklpdjpkigaaGreat
