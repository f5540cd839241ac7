/- A part of the proof: WPlotMeta, Img8, ImgS. -/
import Derived.Test.YthblbddmcdnllaaGreatDoorX43
import Derived.Test.YthblbddmcdnllaaGreatDoorX42
import Derived.Test.YthblbddmcdnllaaGreatDoorX39
import Derived.Test.YthblbddmcdnllaaGreatDoorX45
import Derived.Test.YthblbddmcdnllaaGreatDoorX23
import Derived.Test.YthblbddmcdnllaaGreatDoorY1
set_option maxHeartbeats 6400000
set_option linter.unusedVariables false
set_option linter.unusedSimpArgs false
namespace Go.Proofs.YthblbddmcdnllaaGreatDoor
section
open Go.RowKit Go.Shelf
theorem FE {j:Nat} (hj:j≤8):(DU j).length=8:=by unfold DU;simp;omega
theorem Qb {j i:Nat} (hj:j≤8) (hi:i<8):(DU j)[i]? = some (nth 0 (DU j) i):=by
 rw [List.getElem?_eq_getElem (by rw [FE hj];exact hi),AZ 0 _ i (by rw [FE hj];exact hi)]
theorem MH {w:World} {g j:Nat} (hj:j≤8) (h:AL w g (FX j) 3):∀ i,i<8→w.cell? ⟨g,i,none⟩=some (.int .i64 (nth 0 (DU j) i)):=fun i hi =>
 h.at i _ (by unfold FX;rw [List.getElem?_toArray,List.getElem?_map,Qb hj hi];rfl)
theorem Qc {j:Nat}:∀ x∈DU j,0≤x∧x<3:=by
 intro x hx
 unfold DU at hx
 rcases List.mem_append.1 hx with h|h
 · rw [List.eq_of_mem_replicate h];decide
 · rw [List.eq_of_mem_replicate h];decide
theorem VV {w:World} {g:Nat} {l:List Int} (h:∀ i,i<l.length→w.cell? ⟨g,i,none⟩=some (.int .i64 (nth 0 l i))):∀ j u,(AA encI l)[j]? = some u→w.cell? ((⟨g,0,none⟩:Addr).add j)=some u:=by
 intro j u hu
 rw [Bq,List.getElem?_map] at hu
 rw [add_lit,Nat.zero_add]
 cases hl:l[j]? with
 | none=>rw [hl] at hu;cases hu
 | some x =>
  rw [hl] at hu
  injection hu with hu
  subst hu
  obtain ⟨hj,hx⟩:=List.getElem?_eq_some_iff.1 hl
  rw [h j hj,AZ 0 l j hj,hx]
theorem KE {i:Nat} (h:i<3):(AA encI (DU (5+i))).set (5+i) (.int .i64 1)=AA encI (DU (5+(i+1))):=by
 rcases (show i=0∨i=1∨i=2 by omega) with rfl|rfl|rfl <;> rfl
theorem Xi:∀ i,i<8→(AA encI (DU 8))[i]? = some (.int .i64 1):=by
 intro i hi
 rcases (show i=0∨i=1∨i=2∨i=3∨i=4∨i=5∨i=6∨i=7 by omega) with rfl|rfl|rfl|rfl|rfl|rfl|rfl|rfl <;> rfl
def MI:List UInt8:=Fb EX [6,0,8]
theorem Nf:MI.length=16:=by kernel_rfl
def Gm (bs:List UInt8):List UInt8:=Gv (Gv (Cf bs 4 5) ((5+1:Nat):Int) (BG 3 (5+1) EN)) ((6+1:Nat):Int) (BG 4 (6+1) (Fs MI))
set_option maxRecDepth 100000 in
theorem VW (w:World) (base a img gl c:Nat) (bs:List UInt8) (gc:Nat) (h:Az w base a img gl 7 c 4 bs) (hc:7≤c) (hbl:bs.length=2048) (hb:base≤w.heap.size) (hX:AL w gc (FX 5) 3) :
 Calls Tryz.prog 38 #[.pointer (some ⟨a,0,none⟩),.slice (some ⟨gc,0,none⟩) 8 8] w fun e w'=>e=.returned (.tuple #[.int .i64 7,.int .i64 5,.nilIface])∧Az w' base a img gl 7 c 7 (Gm bs)∧Touch (Bo w a img) w w':=by
 have Sb:=qh (fun w' (hs:Az w' base a img gl 7 c 4 bs)=>Ji w' a img 7 c _ _ hs.1)
 have LM:Hid (∀ w',Az w' base a img gl 7 c 4 bs→Calls Tryz.prog 33 #[.pointer (some ⟨img,0,none⟩)] w' fun e w''=>e=.returned (.int .i64 8)∧w''=w'):=fun w' hs=>by
  obtain ⟨A,cc,h1,-⟩:=hs.2.1.MG
  have h9:=CF w' img A bs.length cc h1 (by rw [hbl];decide)
  rw [hbl] at h9
  refine h9.mono ?_
  rintro e w2 ⟨rfl,hw⟩
  exact ⟨rfl,hw.symm⟩
 have IJ:Hid (∀ w',Az w' base a img gl 7 c 4 bs→Calls Tryz.prog 65 #[.pointer (some ⟨a,0,none⟩)] w' fun e w''=>e=.returned (.int .i64 3)∧Below w'.heap.size w' w''):=fun w' hs=>SX w' a img 7 c gl 4 hs.1 (by omega) hc (by omega)
 have QD:=qh (fun w'=>GV w' 5 (by omega) (by omega))
 have ai:=qh (fun w'=>QZ w')
 have NM:=qh (fun w' (hX:AL w' gc (FX 5) 3)=>XO w' gc 0 8 8 (DU 5) (FE (by omega)) (by omega) (by omega) hX.lt (fun i hi=>by rw [Nat.zero_add];exact MH (by omega) hX i hi) Qc)
 have Qk:=qh (fun w' (hX:AL w' gc (FX 5) 3)=>L9 w' gc 8 8 (DU 5) (FE (by omega)) (by omega) (by omega) (VV (fun i hi=>MH (by omega) hX i (by rw [FE (by omega)] at hi;exact hi))))
 have yV:Hid (∀ w',Az w' base a img gl 7 c 4 bs→Calls Tryz.prog 74 #[.pointer (some ⟨a,0,none⟩),.int .i64 3] w' fun e w''=>(∃ v',e=.returned v'∧BV w'' (Fu w'.heap.size w''.heap.size) v' (Jl 4 3))∧Below w'.heap.size w' w''):=fun w' hs=>Zc w' base a img gl 7 c 4 3 bs hs (by omega) (by omega) hc (by omega)
 have UW:Hid (∀ w',Az w' base a img gl 7 c 4 bs→base≤w'.heap.size→Calls Tryz.prog 70 #[.pointer (some ⟨a,0,none⟩),.int .i64 5,.slice none 0 0] w' fun e w''=>e=.returned (.tuple #[.int .i64 5,.nilIface])∧Az w'' base a img gl 7 c 5 (Cf bs 4 5)∧Touch (Bo w' a img) w' w''):=fun w' hs hb=>Sg w' base a img gl 7 c 4 bs 5 (by omega) (by omega) hs (by omega) hc (by omega) (by omega) (by omega) hb
 have hl5:(Cf bs 4 5).length=2048:=by rw [Ca];exact hbl
 have hl6:(Gv (Cf bs 4 5) ((5+1:Nat):Int) (BG 3 (5+1) EN)).length=2048:=by rw [Jk];exact hl5
 have Ow:Hid (∀ w' gr cr gi ci gb,Az w' base a img gl 7 c 5 (Cf bs 4 5)→base≤w'.heap.size→w'.cell? ⟨gr,0,none⟩=some (.slice (some ⟨gi,0,none⟩) 8 ci)→gi<w'.heap.size→(∀ i,i<8→w'.cell? ⟨gi,i,none⟩=some (.int .i64 1))→AL w' gb #[.slice none 0 0] 164→¬ Bo w' a img gi →
  Calls Tryz.prog 67 #[.pointer (some ⟨a,0,none⟩),.slice (some ⟨gr,0,none⟩) 1 cr,.func (.func 75) #[] #[.pointer (some ⟨gb,0,none⟩)]] w' fun e w''=>e=.returned .nilIface∧Az w'' base a img gl 7 c 6 (Gv (Cf bs 4 5) ((5+1:Nat):Int) (BG 3 (5+1) EN))∧IQ w' w'' gb 6 0 8∧Touch (fun x=>Bo w' a img x∨x=gb) w' w''):=fun w' gr cr gi ci gb h1 h2 h3 h4 h5 h6 h7 =>
  Xh w' base a img gl 7 c 5 (Cf bs 4 5) gr cr gi ci gb h1 (by omega) (by omega) (by omega) (by omega) h2 h3 h4 h5 h6 h7
 have aZ:Hid (∀ w' g cs,g<w'.heap.size→w'.cell? ⟨g,0,none⟩=some (.int .i64 6)→w'.cell? ⟨g,1,none⟩=some (.int .i64 0)→w'.cell? ⟨g,2,none⟩=some (.int .i64 8)→Calls Tryz.prog 76 #[.slice (some ⟨g,0,none⟩) 1 cs] w' fun e w''=>(∃ A c',e=.returned (.tuple #[.slice A 244 c',.int .i64 0])∧w''.ownsRow w'.heap.size 5 1 (.slice A 244 c') 244 (AA AX (Fs MI)))∧Below w'.heap.size w' w''):=fun w' g cs h1 h2 h3 h4=>VS w' g cs 6 0 8 MI rfl Nf h1 h2 h3 h4
 have Vh:Hid (∀ w1 w2 A6 c6,Az w1 base a img gl 7 c 6 (Gv (Cf bs 4 5) ((5+1:Nat):Int) (BG 3 (5+1) EN))→Below w1.heap.size w1 w2→w2.ownsRow w1.heap.size 5 1 (.slice A6 244 c6) 244 (AA AX (Fs MI))→Calls Tryz.prog 77 #[.pointer (some ⟨a,0,none⟩),.int .i64 4,.slice A6 244 c6] w2 fun e w'=>e=.returned (.tuple #[.int .i64 7,.nilIface])∧Az w' base a img gl 7 c 7 (Gm bs)∧Touch (Bo w1 a img) w2 w'):=fun w1 w2 A6 c6 h hB ho=>by
  have hlt:a<w1.heap.size:=AL.lt h.1
  have h9:=XY w2 (Fu w1.heap.size w2.heap.size) base a img gl 7 c 6 _ 4 (.slice A6 244 c6) (Fs MI) (fun b hb=>hb.2) (fun hb=>by have:=hb.1;omega) (h.below hB) (by omega) (by omega) (Bp.own DY ho (by omega)) (by unfold Fs;simp only [List.length_append,Nf,List.length_replicate];decide) (by omega) (by omega) (by omega) (by omega)
  refine h9.mono ?_
  rintro e w' ⟨h1,h2,h3⟩
  exact ⟨h1,h2,h3.weak (CJ h.2.1 hB)⟩
 have HH:=qh h
 have IL:=qh hb
 have HX:=qh hX
 have EP:=qh h.Tk
 clear h hc hbl hb hX hl5 hl6
 generalize Gm bs=B7 at *
 generalize Gv (Cf bs 4 5) ((5+1:Nat):Int) (BG 3 (5+1) EN)=B6 at *
 generalize Cf bs 4 5=B5 at *
 go_enter Tryz.func38,Tryz.ntmps38
 go_upto_region 7 with (first
  | (go_at_call 34;(with_reducible refine (Sb.out _ HH.out).mono ?_);rintro e w2 ⟨rfl,hw⟩;rw [hw];clear hw w2)
  | (go_at_call 33;(with_reducible refine (LM.out _ HH.out).mono ?_);rintro e w2 ⟨rfl,hw⟩;rw [hw];clear hw w2)
  | (go_at_call 64;(with_reducible refine (NM.out _ HX.out).mono ?_);rintro e w2 ⟨⟨gr,cr,gi,ci,rfl,-,-⟩,hB⟩;have HB2:=qh hB;clear hB))
 rename World=>w2
 have Jj:=qh (HH.out.below HB2.out)
 go_upto_region 10 with (first
  | (go_at_call 66;(with_reducible refine (QD.out _).mono ?_);rintro e w3 ⟨rfl,hB⟩;have HB3:=qh hB;clear hB)
  | (go_at_call 72;(with_reducible refine (ai.out _).mono ?_);rintro e w4 ⟨rfl,hw⟩;rw [hw];clear hw w4))
 rename World=>w3
 have Mm:=qh (Jj.out.below HB3.out)
 go_upto_region 12 with (go_at_call 65;(with_reducible refine (IJ.out _ Mm.out).mono ?_);rintro e w4 ⟨rfl,hB⟩;have EQ:=qh hB;clear hB)
 rename World=>w4
 have Oi:Hid (Below w.heap.size w w4):=(HB2.out.trans (HB3.out.mono HB2.out.size)).trans (EQ.out.mono (Nat.le_trans HB2.out.size HB3.out.size))
 have Qr:=qh (HX.out.below Oi.out HX.out.lt)
 clear Jj Mm HB2 HB3 EQ NM QD ai IJ Sb LM
 go_upto_region 13 with (go_at_call 73;(with_reducible refine (Qk.out _ Qr.out).mono ?_);rintro e w5 ⟨⟨g5,c5,rfl,ho⟩,hB⟩;have KR:=qh ho;have DT:=qh hB;clear ho hB)
 rename World=>w5
 have OZ:Hid (Below w.heap.size w w5):=Oi.out.trans (DT.out.mono Oi.out.size)
 have Ol:=qh (HH.out.below OZ.out)
 have lc:=qh (yV.out w5 Ol.out)
 clear Qk yV Qr
 go_upto_region 14 with (go_at_call 74;(with_reducible refine lc.out.mono ?_);rintro e w6 ⟨⟨v6,rfl,hv⟩,hB⟩;obtain ⟨A6,c6,rfl,hc6,jP⟩:=hv;obtain ⟨gq,oq,hAq,yX,hcq⟩:=Be jP (by decide);subst hAq;rw [FD];have HQ:=qh hcq;have uo:=qh yX;have D8:=qh hB;clear hB hcq yX jP hc6)
 rename World=>w6
 have Oj:Hid (Below w.heap.size w w6):=OZ.out.trans (D8.out.mono OZ.out.size)
 have hg5:=(KR.out.lt g5 rfl).1
 have OA:Hid (w6.ownsRow w4.heap.size 3 1 (.slice (some ⟨g5,0,none⟩) 8 c5) 8 (AA encI (DU (5+0)))):=own_below KR.out D8.out (Nat.le_refl _)
 have lg:g5≠gq:=fun e=>by have:=(KR.out.lt g5 rfl).2;have:=uo.out.1;omega
 have oW:Hid (∀ W,Touch (fun x=>x=g5) w6 W→W.cell? ⟨gq,oq,none⟩=some (.int .i64 5)∧W.cell? ⟨gq,oq+1,none⟩=some (.int .i64 6)∧W.cell? ⟨gq,oq+2,none⟩=some (.int .i64 7)):=fun W hT=>by
  have hb:=hT.block uo.out.2 (fun e=>lg e.symm)
  exact ⟨(World.cell?_of_block (a:=⟨gq,oq,none⟩) hb).trans (HQ.out 0 (by decide)),(World.cell?_of_block (a:=⟨gq,oq+1,none⟩) hb).trans (HQ.out 1 (by decide)),(World.cell?_of_block (a:=⟨gq,oq+2,none⟩) hb).trans (HQ.out 2 (by decide))⟩
 have Pq:Hid (w.heap.size≤g5):=by show _≤_;have:=Oi.out.size;omega
 clear KR Ol lc D8 DT HQ uo OZ hg5 lg
 go_loopw [63] (fun vi wr=>∃ i:Nat,vi=.int .i64 i∧i≤3∧Hid (Touch (fun x=>x=g5) w6 wr)∧Hid (wr.ownsRow w4.heap.size 3 1 (.slice (some ⟨g5,0,none⟩) 8 c5) 8 (AA encI (DU (5+i))))) (fun vi _=>3-(intOf vi).toNat)
 case atStart=>exact ⟨0,rfl,by omega,Touch.refl,OA⟩
 case round =>
  obtain ⟨i,rfl,hi,HT,HO⟩:=hrel
  rcases (show i=0∨i=1∨i=2∨i=3 by omega) with rfl|rfl|rfl|rfl
  · obtain ⟨q0,q1,q2⟩:=oW.out wr HT.out
    have z0:wr.cell? ⟨g5,5,none⟩=some (.int .i64 0):=HO.out.cellAt 5 (by decide)
    have z1:=HO.out.frozenAt 5
    have z2:=(HO.out.lt g5 rfl).2
    rw [show ((0:Nat):Int)=0 from rfl]
    go_wp2_with fail
    have hst:=HO.out.stored 5 (.int .i64 1)
    rw [show (AA encI (DU (5+0))).set 5 (.int .i64 1)=AA encI (DU (5+1)) from KE (i:=0) (by omega)] at hst
    exact ⟨⟨1,rfl,by omega,HT.out.trans (Touch.CV hst.2 (fun x e=>by injection e with e;exact e.symm)),hst.1⟩,by simp [intOf]⟩
  · obtain ⟨q0,q1,q2⟩:=oW.out wr HT.out
    have z0:wr.cell? ⟨g5,6,none⟩=some (.int .i64 0):=HO.out.cellAt 6 (by decide)
    have z1:=HO.out.frozenAt 6
    have z2:=(HO.out.lt g5 rfl).2
    rw [show ((1:Nat):Int)=1 from rfl]
    go_wp2_with fail
    have hst:=HO.out.stored 6 (.int .i64 1)
    rw [show (AA encI (DU (5+1))).set 6 (.int .i64 1)=AA encI (DU (5+2)) from KE (i:=1) (by omega)] at hst
    exact ⟨⟨2,rfl,by omega,HT.out.trans (Touch.CV hst.2 (fun x e=>by injection e with e;exact e.symm)),hst.1⟩,by simp [intOf]⟩
  · obtain ⟨q0,q1,q2⟩:=oW.out wr HT.out
    have z0:wr.cell? ⟨g5,7,none⟩=some (.int .i64 0):=HO.out.cellAt 7 (by decide)
    have z1:=HO.out.frozenAt 7
    have z2:=(HO.out.lt g5 rfl).2
    rw [show ((2:Nat):Int)=2 from rfl]
    go_wp2_with fail
    have hst:=HO.out.stored 7 (.int .i64 1)
    rw [show (AA encI (DU (5+2))).set 7 (.int .i64 1)=AA encI (DU (5+3)) from KE (i:=2) (by omega)] at hst
    exact ⟨⟨3,rfl,by omega,HT.out.trans (Touch.CV hst.2 (fun x e=>by injection e with e;exact e.symm)),hst.1⟩,by simp [intOf]⟩
  · have J6:Hid (Below w.heap.size w wr):=Oj.out.trans (HT.out.below (base:=w.heap.size) (fun x e=>by rw [e];exact Pq.out) Oj.out.size)
    have fF:=qh (HH.out.below J6.out)
    have lh:=qh (UW.out wr fF.out (by have:=IL.out;have:=J6.out.size;omega))
    have IU:Hid (wr.ownsRow w4.heap.size 3 1 (.slice (some ⟨g5,0,none⟩) 8 c5) 8 (AA encI (DU 8))):=HO.out
    have QD:Hid (¬ Bo wr a img g5):=by
     rintro (e|hx)
     · have h1:a<w.heap.size:=AL.lt HH.out.1
       have:=Pq.out;omega
     · obtain ⟨cs,hx,-⟩:=Gg fF.out.2.1 g5 hx
       exact BC IU.out hx (by decide) rfl
    rw [show ((3:Nat):Int)=3 from rfl]
    clear oW OA HT HO UW Oj Oi Pq
    go_upto_region 21 with (go_at_call 70;(with_reducible refine lh.out.mono ?_);rintro e w8 ⟨rfl,ha,hT⟩;have ul:=qh ha;have Js:=qh hT;clear ha hT)
    rename World=>w8
    have Yh:=qh (BB IU.out Js.out (fun x hx e=>QD.out (by have hx:some g5=some x:=hx;injection hx with hx;rw [hx];exact e)))
    have ll:=qh (XO w8 g5 0 8 c5 (DU 8) (FE (by omega)) (by omega) (by omega) (Yh.out.lt g5 rfl).2 (fun i hi=>by rw [Nat.zero_add];exact (Yh.out.cellAt i (by omega)).trans (by rw [Bq,List.getElem?_map,Qb (by omega) hi];rfl)) Qc)
    have Si:Hid (Touch (Bo w a img) w w8):=(Touch.of_below J6.out).trans (Js.out.weak (CJ HH.out.2.1 J6.out))
    clear IU Yh lh QD Js fF
    go_upto_region 24 with (go_at_call 64;(with_reducible refine ll.out.mono ?_);rintro e w9 ⟨⟨gr,cr,gi,ci,rfl,hr1,hr2⟩,hB⟩;have HR1:=qh hr1;have HR2:=qh hr2;have Jb:=qh hB;clear hr1 hr2 hB)
    rename World=>w9
    have lm:=qh (ul.out.below Jb.out)
    clear ll
    have lq:=AL.new w9 #[.slice none 0 0] 164
    have Gt:Below w9.heap.size w9 (w9.alloc (.cells #[.slice none 0 0] 164)):=(Below.refl _ _).alloc (Nat.le_refl _) _
    go_upto_region 25 with fail
    generalize w9.alloc (.cells #[.slice none 0 0] 164)=D9 at *
    obtain ⟨gb,hgb⟩:∃ q,w9.heap.size=q:=⟨_,rfl⟩
    have Hw:=qh Gt
    have Kq:=Jb.out.size
    have ZK:=Si.out.size
    have rM:Hid (w.heap.size≤gb):=by show _≤_;omega
    have hla:a<w8.heap.size:=Nat.lt_of_lt_of_le (AL.lt HH.out.1) ZK
    have hgi:=HR2.out.lt gi rfl
    have aj:Hid (Below w8.heap.size w8 D9):=Jb.out.trans (Gt.mono Kq)
    have lu:Hid (D9.cell? ⟨gr,0,none⟩=some (.slice (some ⟨gi,0,none⟩) 8 ci)):=AY Gt (HR1.out.lt gr rfl).2 (HR1.out.cellAt 0 (by decide))
    have Zd:Hid (D9.ownsRow w8.heap.size 3 1 (.slice (some ⟨gi,0,none⟩) 8 ci) 8 (AA encI (DU 8))):=own_below HR2.out Gt (Nat.le_refl _)
    have Qd:=qh (lm.out.below Gt)
    have Yz:Hid (¬ Bo D9 a img gi):=by
     rintro (e|hx)
     · omega
     · obtain ⟨cs,hx,-⟩:=Gg Qd.out.2.1 gi hx
       exact BC Zd.out hx (by decide) rfl
    have Xj:=qh (Ow.out D9 gr cr gi ci w9.heap.size Qd.out (by have:=IL.out;have:=Gt.size;omega) lu.out (Zd.out.lt gi rfl).2 (fun i hi=>(Zd.out.cellAt i (by omega)).trans (Xi i hi)) lq Yz.out)
    have Ng:Hid (Touch (Bo w a img) w D9):=Si.out.trans (Touch.of_below aj.out)
    have iF:∀ (fn:Fn) (first cap:Array Value) (w:World),(Instr.makeFunc fn first cap).run Tryz.prog w=.ok (.func fn first cap) w:=fun _ _ _ _=>rfl
    rw [hgb] at Xj ⊢
    clear lq Gt hgb Kq ZK hla hgi Ow HR1 HR2 lu Zd Yz lm Jb Si aj Hw
    go_upto_region 26 with (go_at_call 67;(with_reducible refine Xj.out.mono ?_);rintro e Vi ⟨rfl,ha,⟨gs,cs,hbx,lY,lv,hc0,hc1,hc2⟩,hT⟩;have uq:=qh ha;have ak:=qh hbx;have au:=qh (aZ.out Vi gs cs lv hc0 hc1 hc2);have lw:=qh hT;clear ha hT hbx lY lv hc0 hc1 hc2)
    rename World=>Vi
    have Tm:Hid (Touch (Bo w a img) w Vi):=Ng.out.trans' lw.out (fun x hx=>by
     rcases hx with hx|hx
     · exact .inl (Eb HH.out.2.1 Ng.out EP.out x hx)
     · exact .inr (by rw [hx];exact rM.out))
    have y0:Vi.cell? ⟨gb,0,none⟩=some (.slice (some ⟨gs,0,none⟩) 1 cs):=ak.out.at 0 _ rfl
    clear Xj aZ Ng lw iF
    go_upto_region 29 with (go_at_call 76;(with_reducible refine au.out.mono ?_);rintro e YA ⟨⟨A12,c12,rfl,ho⟩,hB⟩;have fG:=qh ho;have l8:=qh hB;clear ho hB)
    rename World=>YA
    have l9:=qh (Vh.out Vi YA A12 c12 uq.out l8.out fG.out)
    clear y0 Vh au ak
    go_wp2_with (go_at_call 77;(with_reducible refine l9.out.mono ?_);rintro e mD ⟨rfl,ha,hT⟩;have ut:=qh ha;have uu:=qh hT;clear ha hT)
    refine bodyPost_ret (v:=.tuple #[.int .i64 7,.int .i64 5,.nilIface]) (by simp [results,Tryz.results38,go_sem]) rfl ⟨rfl,ut.out,(Tm.out.trans (Touch.of_below l8.out)).trans (uu.out.weak (Eb HH.out.2.1 Tm.out EP.out))⟩
end
section
open Go.RowKit Go.Shelf
def Qe:Kk:=⟨0,0,1,0,8,1,2,3,4,7,5⟩
def Qs:List UInt8:=Cf (Cf (Cf (Cf EO 0 1) 1 3) 2 4) 3 5
def av:List UInt8:=Gv (Gm Qs) 0 (BG 1 0 (Cg Qe))
def uw:List UInt8:=[0,0,0,0,1,0,0,0,83,67,65,78,84,76,73,78,1,0,0,0,0,0,0,0,0,0,0,0,1,0,0,0,0,0,0,0,8,0,0,0,1,0,0,0,2,0,0,0,3,0,0,0,4,0,0,0,7,0,0,0,5,0,0,0,0,0,0,0,0,0,0,0,0,0,0,0,0,0,0,0,0,0,0,0,0,0,0,0,0,0,0,0,0,0,0,0,0,0,0,0,0,0,0,0,0,0,0,0,0,0,0,0,0,0,0,0,0,0,0,0,0,0,0,0,0,0,0,0,0,0,0,0,0,0,0,0,0,0,0,0,0,0,0,0,0,0,0,0,0,0,0,0,0,0,0,0,0,0,0,0,0,0,0,0,0,0,0,0,0,0,0,0,0,0,0,0,0,0,0,0,0,0,0,0,0,0,0,0,0,0,0,0,0,0,0,0,0,0,0,0,0,0,0,0,0,0,0,0,0,0,0,0,0,0,0,0,0,0,0,0,0,0,0,0,0,0,0,0,0,0,0,0,0,0,0,0,0,0,0,0,0,0,0,0,0,0,0,0,0,0,0,0,114,177,122,225]
def bk1:List UInt8:=[1,0,0,0,2,0,0,0,1,1,0,0,4,0,18,0,0,0,0,0,0,0,0,0,0,0,0,0,0,0,0,0,0,0,0,0,0,0,0,0,0,0,0,0,0,0,0,0,0,0,0,0,0,0,0,0,0,0,0,0,0,0,0,0,0,0,0,0,0,0,0,0,0,0,0,0,0,0,0,0,0,0,0,0,0,0,0,0,0,0,0,0,0,0,0,0,0,0,0,0,0,0,0,0,0,0,0,0,0,0,0,0,0,0,0,0,0,0,0,0,0,0,0,0,0,0,0,0,0,0,0,0,0,0,0,0,0,0,0,0,0,0,0,0,0,0,0,0,0,0,0,0,0,0,0,0,0,0,0,0,0,0,0,0,0,0,0,0,0,0,0,0,0,0,0,0,0,0,0,0,0,0,0,0,0,0,0,0,0,0,0,0,0,0,0,0,0,0,0,0,0,0,0,0,0,0,0,0,0,0,0,0,0,0,0,0,0,0,0,0,0,0,0,0,0,0,0,0,0,0,0,0,0,0,0,0,0,0,0,0,0,0,0,0,0,0,0,0,0,0,0,0,119,42,154,67]
def bk2:List UInt8:=[2,0,0,0,2,0,0,0,1,3,0,0,24,0,6,0,0,0,0,0,0,0,0,0,0,0,0,0,0,0,0,0,0,0,0,0,0,0,0,0,0,0,0,0,0,0,0,0,0,0,0,0,0,0,0,0,0,0,0,0,0,0,0,0,0,0,0,0,0,0,0,0,0,0,0,0,0,0,0,0,0,0,0,0,0,0,0,0,0,0,0,0,0,0,0,0,0,0,0,0,0,0,0,0,0,0,0,0,0,0,0,0,0,0,0,0,0,0,0,0,0,0,0,0,0,0,0,0,0,0,0,0,0,0,0,0,0,0,0,0,0,0,0,0,0,0,0,0,0,0,0,0,0,0,0,0,0,0,0,0,0,0,0,0,0,0,0,0,0,0,0,0,0,0,0,0,0,0,0,0,0,0,0,0,0,0,0,0,0,0,0,0,0,0,0,0,0,0,0,0,0,0,0,0,0,0,0,0,0,0,0,0,0,0,0,0,0,0,0,0,0,0,0,0,0,0,0,0,0,0,0,0,0,0,0,0,0,0,0,0,0,0,0,0,0,0,0,0,0,0,0,0,115,179,53,120]
def VX:List UInt8:=[3,0,0,0,2,0,0,0,1,4,0,0,16,0,9,0,0,0,0,0,0,0,0,0,0,0,0,0,0,0,0,0,0,0,0,0,0,0,0,0,0,0,0,0,0,0,0,0,0,0,0,0,0,0,0,0,0,0,0,0,0,0,0,0,0,0,0,0,0,0,0,0,0,0,0,0,0,0,0,0,0,0,0,0,0,0,0,0,0,0,0,0,0,0,0,0,0,0,0,0,0,0,0,0,0,0,0,0,0,0,0,0,0,0,0,0,0,0,0,0,0,0,0,0,0,0,0,0,0,0,0,0,0,0,0,0,0,0,0,0,0,0,0,0,0,0,0,0,0,0,0,0,0,0,0,0,0,0,0,0,0,0,0,0,0,0,0,0,0,0,0,0,0,0,0,0,0,0,0,0,0,0,0,0,0,0,0,0,0,0,0,0,0,0,0,0,0,0,0,0,0,0,0,0,0,0,0,0,0,0,0,0,0,0,0,0,0,0,0,0,0,0,0,0,0,0,0,0,0,0,0,0,0,0,0,0,0,0,0,0,0,0,0,0,0,0,0,0,0,0,0,0,7,155,133,136]
def Xm:List UInt8:=[4,0,0,0,2,0,0,0,1,5,0,0,4,0,18,0,0,0,0,0,0,0,0,0,0,0,0,0,0,0,0,0,0,0,0,0,0,0,0,0,0,0,0,0,0,0,0,0,0,0,0,0,0,0,0,0,0,0,0,0,0,0,0,0,0,0,0,0,0,0,0,0,0,0,0,0,0,0,0,0,0,0,0,0,0,0,0,0,0,0,0,0,0,0,0,0,0,0,0,0,0,0,0,0,0,0,0,0,0,0,0,0,0,0,0,0,0,0,0,0,0,0,0,0,0,0,0,0,0,0,0,0,0,0,0,0,0,0,0,0,0,0,0,0,0,0,0,0,0,0,0,0,0,0,0,0,0,0,0,0,0,0,0,0,0,0,0,0,0,0,0,0,0,0,0,0,0,0,0,0,0,0,0,0,0,0,0,0,0,0,0,0,0,0,0,0,0,0,0,0,0,0,0,0,0,0,0,0,0,0,0,0,0,0,0,0,0,0,0,0,0,0,0,0,0,0,0,0,0,0,0,0,0,0,0,0,0,0,0,0,0,0,0,0,0,0,0,0,0,0,0,0,194,223,156,138]
def Zf:List UInt8:=[5,0,0,0,2,0,0,0,1,5,0,0,4,0,18,0,0,0,0,0,0,0,0,0,0,0,0,0,0,0,0,0,0,0,0,0,0,0,0,0,0,0,0,0,0,0,0,0,0,0,0,0,0,0,0,0,0,0,0,0,0,0,0,0,0,0,0,0,0,0,0,0,0,0,0,0,0,0,0,0,0,0,0,0,0,0,0,0,0,0,0,0,0,0,0,0,0,0,0,0,0,0,0,0,0,0,0,0,0,0,0,0,0,0,0,0,0,0,0,0,0,0,0,0,0,0,0,0,0,0,0,0,0,0,0,0,0,0,0,0,0,0,0,0,0,0,0,0,0,0,0,0,0,0,0,0,0,0,0,0,0,0,0,0,0,0,0,0,0,0,0,0,0,0,0,0,0,0,0,0,0,0,0,0,0,0,0,0,0,0,0,0,0,0,0,0,0,0,0,0,0,0,0,0,0,0,0,0,0,0,0,0,0,0,0,0,0,0,0,0,0,0,0,0,0,0,0,0,0,0,0,0,0,0,0,0,0,0,0,0,0,0,0,0,0,0,0,0,0,0,0,0,215,119,186,158]
def fH:List UInt8:=[6,0,0,0,3,0,0,0,8,0,0,0,85,85,0,0,0,0,0,0,0,0,0,0,0,0,0,0,0,0,0,0,0,0,0,0,0,0,0,0,0,0,0,0,0,0,0,0,0,0,0,0,0,0,0,0,0,0,0,0,0,0,0,0,0,0,0,0,0,0,0,0,0,0,0,0,0,0,0,0,0,0,0,0,0,0,0,0,0,0,0,0,0,0,0,0,0,0,0,0,0,0,0,0,0,0,0,0,0,0,0,0,0,0,0,0,0,0,0,0,0,0,0,0,0,0,0,0,0,0,0,0,0,0,0,0,0,0,0,0,0,0,0,0,0,0,0,0,0,0,0,0,0,0,0,0,0,0,0,0,0,0,0,0,0,0,0,0,0,0,0,0,0,0,0,0,0,0,0,0,0,0,0,0,0,0,0,0,0,0,0,0,0,0,0,0,0,0,0,0,0,0,0,0,0,0,0,0,0,0,0,0,0,0,0,0,0,0,0,0,0,0,0,0,0,0,0,0,0,0,0,0,0,0,0,0,0,0,0,0,0,0,0,0,0,0,0,0,0,0,0,0,73,132,2,41]
def mE:List UInt8:=[7,0,0,0,4,0,0,0,1,0,0,0,6,0,0,0,0,0,0,0,0,0,0,0,8,0,0,0,0,0,0,0,0,0,0,0,0,0,0,0,0,0,0,0,0,0,0,0,0,0,0,0,0,0,0,0,0,0,0,0,0,0,0,0,0,0,0,0,0,0,0,0,0,0,0,0,0,0,0,0,0,0,0,0,0,0,0,0,0,0,0,0,0,0,0,0,0,0,0,0,0,0,0,0,0,0,0,0,0,0,0,0,0,0,0,0,0,0,0,0,0,0,0,0,0,0,0,0,0,0,0,0,0,0,0,0,0,0,0,0,0,0,0,0,0,0,0,0,0,0,0,0,0,0,0,0,0,0,0,0,0,0,0,0,0,0,0,0,0,0,0,0,0,0,0,0,0,0,0,0,0,0,0,0,0,0,0,0,0,0,0,0,0,0,0,0,0,0,0,0,0,0,0,0,0,0,0,0,0,0,0,0,0,0,0,0,0,0,0,0,0,0,0,0,0,0,0,0,0,0,0,0,0,0,0,0,0,0,0,0,0,0,0,0,0,0,0,0,0,0,0,0,97,210,193,73]
set_option maxRecDepth 100000
theorem fI:BG 1 0 (Cg Qe)=uw:=by kernel_rfl
theorem fJ:BG 2 (0+1) (Cr 1)=bk1:=by kernel_rfl
theorem fK:BG 2 (1+1) (Cr 3)=bk2:=by kernel_rfl
theorem fM:BG 2 (2+1) (Cr 4)=VX:=by kernel_rfl
theorem fO:BG 2 (3+1) (Cr 5)=Xm:=by kernel_rfl
theorem fQ:BG 2 (4+1) (Cr 5)=Zf:=by kernel_rfl
theorem fT:BG 3 (5+1) EN=fH:=by kernel_rfl
theorem fU:BG 4 (6+1) (Fs MI)=mE:=by kernel_rfl
def zs (n:Nat):List UInt8:=List.replicate n 0
def Jm:List UInt8:=uw++(bk1++(bk2++(VX++(Xm++(Zf++(fH++mE))))))
theorem mF:Gv EO ((0+1:Nat):Int) bk1=zs 256++(bk1++zs 1536):=by kernel_rfl
theorem mG:Gv (zs 256++(bk1++zs 1536)) ((1+1:Nat):Int) bk2=zs 256++(bk1++(bk2++zs 1280)):=by kernel_rfl
theorem mH:Gv (zs 256++(bk1++(bk2++zs 1280))) ((2+1:Nat):Int) VX=zs 256++(bk1++(bk2++(VX++zs 1024))):=by kernel_rfl
theorem mI:Gv (zs 256++(bk1++(bk2++(VX++zs 1024)))) ((3+1:Nat):Int) Xm=zs 256++(bk1++(bk2++(VX++(Xm++zs 768)))):=by kernel_rfl
theorem mJ:Gv (zs 256++(bk1++(bk2++(VX++(Xm++zs 768))))) ((4+1:Nat):Int) Zf=zs 256++(bk1++(bk2++(VX++(Xm++(Zf++zs 512))))):=by kernel_rfl
theorem mK:Gv (zs 256++(bk1++(bk2++(VX++(Xm++(Zf++zs 512)))))) ((5+1:Nat):Int) fH=zs 256++(bk1++(bk2++(VX++(Xm++(Zf++(fH++zs 256)))))):=by kernel_rfl
theorem mM:Gv (zs 256++(bk1++(bk2++(VX++(Xm++(Zf++(fH++zs 256))))))) ((6+1:Nat):Int) mE=zs 256++(bk1++(bk2++(VX++(Xm++(Zf++(fH++mE)))))):=by kernel_rfl
theorem mO:Gv (zs 256++(bk1++(bk2++(VX++(Xm++(Zf++(fH++mE))))))) 0 uw=Jm:=by kernel_rfl
theorem fV:av=Jm:=by
 unfold av Gm Qs Cf
 rw [fJ,mF,fK,mG,fM,mH,fO,mI,fQ,mJ,fT,mK,fU,mM,fI,mO]
end
section
open Go.RowKit
set_option maxRecDepth 100000
theorem MN:Jm.length=2048:=by kernel_rfl
theorem az:Dv Jm 1 1:=⟨by kernel_rfl,by kernel_rfl,by kernel_rfl⟩
theorem bA:Dv Jm 2 3:=⟨by kernel_rfl,by kernel_rfl,by kernel_rfl⟩
theorem bB:Dv Jm 3 4:=⟨by kernel_rfl,by kernel_rfl,by kernel_rfl⟩
theorem bC:Dv Jm 4 5:=⟨by kernel_rfl,by kernel_rfl,by kernel_rfl⟩
theorem bE:Dv Jm 5 5:=⟨by kernel_rfl,by kernel_rfl,by kernel_rfl⟩
theorem bF:Ga Jm 6:=⟨by rw [MN];decide,by kernel_rfl,by decide +kernel,by decide +kernel⟩
theorem nD:Lh Jm 7 6 0 8:=⟨by rw [MN];decide,by kernel_rfl,by kernel_rfl,by kernel_rfl,(BF (AO Jm 7) 4 240).take 16,by kernel_rfl,by kernel_rfl,by kernel_rfl⟩
theorem Zp:ER Jm 9 where
 len:=by rw [MN];decide
 Tp:=by decide
 vN:=⟨by kernel_rfl,by kernel_rfl⟩
 img:=⟨az,bA,bB,bC,⟨0,8,nD⟩,bF,bE⟩
 t1:=⟨by kernel_rfl,by kernel_rfl,by kernel_rfl⟩
 t2:=⟨by kernel_rfl,by kernel_rfl,by kernel_rfl⟩
 t3:=⟨by kernel_rfl,by kernel_rfl,by kernel_rfl⟩
 t4:=⟨by kernel_rfl,by kernel_rfl,by kernel_rfl⟩
 t5:=⟨by kernel_rfl,by kernel_rfl,by kernel_rfl⟩
 idx:=nD
 bits:=bF
 cnt:=by kernel_rfl
 ones:=by kernel_rfl
theorem Xu:Lj Jm:=⟨by decide +kernel,⟨az,by kernel_rfl,by kernel_rfl⟩,⟨bA,by kernel_rfl,by kernel_rfl⟩,⟨bB,by kernel_rfl,by kernel_rfl⟩,⟨bC,by kernel_rfl,by kernel_rfl⟩,⟨bE,by kernel_rfl,by kernel_rfl⟩,by decide +kernel,by decide +kernel⟩
end
end Go.Proofs.YthblbddmcdnllaaGreatDoor
