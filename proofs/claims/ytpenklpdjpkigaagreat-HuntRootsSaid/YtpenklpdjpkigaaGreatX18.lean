/- A part of the proof: WSuper6, WBlkS1. -/
import Derived.Test.YtpenklpdjpkigaaGreatX17
import Derived.Test.YtpenklpdjpkigaaGreatY4
import Derived.Test.YtpenklpdjpkigaaGreatY3
import Derived.Deep.QuietTactic
import Derived.BigQuiet
import Derived.Outline
import Derived.Test.YtpenklpdjpkigaaGreatY1
set_option maxHeartbeats 6400000
set_option linter.unusedVariables false
set_option linter.unusedSimpArgs false
namespace Go.Proofs.YtpenklpdjpkigaaGreat
section
open Go.RowKit Go.Shelf
attribute [local go_sem] Oper.semAt_some
abbrev Eo:Array Value:=#[.int .i64 0,.int .i64 0,.int .i64 0,.int .i64 0,.int .i64 0,.int .i64 0,.int .i64 0,.int .i64 0,.int .i64 0,.int .i64 0,.int .i64 0]
def Dw (b:List UInt8):Nl × Int:=if Ol b=0 then (EF b,0) else (LB,7)
theorem bC {b:List UInt8} (h:b.length=244) (hr:DX (EF b)=false):Dw b=(LB,7):=by
 unfold Dw Ol
 rw [if_neg (by rw [hr];simp)]
theorem Xf {b:List UInt8} (h:b.length≠244):Dw b=(LB,7):=by
 unfold Dw Ol
 rw [if_neg (by simp [h])]
theorem bE {b:List UInt8} (h:b.length=244) (hne:Dv (EF b)≠b):Dw b=(LB,7):=by
 unfold Dw Ol
 have:¬ (b.length=244∧b.take 8=Fa∧AC b 8 4=1∧D9 (b.drop 56)=true∧DX (EF b)=true):=fun ⟨_,h1,h2,h3,_⟩=>hne ((RH b h).2 ⟨h1,h2,h3⟩)
 rw [if_neg this]
 try rfl
theorem Xg {b:List UInt8} (h:b.length=244) (hr:DX (EF b)=true) (he:Dv (EF b)=b):Dw b=(EF b,0):=by
 obtain ⟨h1,h2,h3⟩:=(RH b h).1 he
 have hE:Ol b=0:=by
  unfold Ol
  rw [if_pos ⟨h,h1,h2,h3,hr⟩]
 unfold Dw
 rw [hE]
 rfl
theorem Gj (w:World) (g:Nat) (u0 u1 u2 u3 u4 u5 u6 u7 u8 u9 u10:Value):Touch (fun x=>x=g) w (((((((((((w.setCell ⟨g,0,none⟩ u0).setCell ⟨g,1,none⟩ u1).setCell ⟨g,2,none⟩ u2).setCell ⟨g,3,none⟩ u3).setCell ⟨g,4,none⟩ u4).setCell ⟨g,5,none⟩ u5).setCell ⟨g,6,none⟩ u6).setCell ⟨g,7,none⟩ u7).setCell ⟨g,8,none⟩ u8).setCell ⟨g,9,none⟩ u9).setCell ⟨g,10,none⟩ u10) :=
 have k:∀ (w:World) (i:Nat) (u:Value),Touch (fun x=>x=g) w (w.setCell ⟨g,i,none⟩ u):=fun w i u=>Touch.Dc (R:=fun x=>x=g) (p:=⟨g,i,none⟩) rfl
 ((((((((((k _ 0 u0).trans (k _ 1 u1)).trans (k _ 2 u2)).trans (k _ 3 u3)).trans (k _ 4 u4)).trans (k _ 5 u5)).trans (k _ 6 u6)).trans (k _ 7 u7)).trans (k _ 8 u8)).trans (k _ 9 u9)).trans (k _ 10 u10)
theorem Fp {w:World} {g:Nat} {T:TypeId} (h:AP w g Eo T) (s:Nl):∃ w',(((((((((((w.setCell ⟨g,0,none⟩ (.int .i64 s.tx)).setCell ⟨g,1,none⟩ (.int .i64 s.time)).setCell ⟨g,2,none⟩ (.int .i64 s.unit)).setCell ⟨g,3,none⟩ (.int .i64 s.data)).setCell ⟨g,4,none⟩ (.int .i64 s.blocks)).setCell ⟨g,5,none⟩ (.int .i64 s.top)).setCell ⟨g,6,none⟩ (.int .i64 s.BQ)).setCell ⟨g,7,none⟩ (.int .i64 s.FD)).setCell ⟨g,8,none⟩ (.int .i64 s.Hg)).setCell ⟨g,9,none⟩ (.int .i64 s.FE)).setCell ⟨g,10,none⟩ (.int .i64 s.mover))=w'∧AP w' g (Gu s) T∧Touch (fun x=>x=g) w w':=by
 have h1:=((((h.set 0 (.int .i64 s.tx)).set 1 (.int .i64 s.time)).set 2 (.int .i64 s.unit)).set 3 (.int .i64 s.data)).set 4 (.int .i64 s.blocks)
 simp only [List.setIfInBounds_toArray,List.set_cons_zero,List.set_cons_succ] at h1
 have h2:=(((((h1.set 5 (.int .i64 s.top)).set 6 (.int .i64 s.BQ)).set 7 (.int .i64 s.FD)).set 8 (.int .i64 s.Hg)).set 9 (.int .i64 s.FE)).set 10 (.int .i64 s.mover)
 simp only [List.setIfInBounds_toArray,List.set_cons_zero,List.set_cons_succ] at h2
 exact ⟨_,rfl,h2,Gj _ _ _ _ _ _ _ _ _ _ _ _ _⟩
theorem FJ {w:World} {g:Nat} {T:TypeId} (h:AP w g Eo T):∃ w',(((((((((((w.setCell ⟨g,0,none⟩ (.int .i64 0)).setCell ⟨g,1,none⟩ (.int .i64 0)).setCell ⟨g,2,none⟩ (.int .i64 0)).setCell ⟨g,3,none⟩ (.int .i64 0)).setCell ⟨g,4,none⟩ (.int .i64 0)).setCell ⟨g,5,none⟩ (.int .i64 0)).setCell ⟨g,6,none⟩ (.int .i64 0)).setCell ⟨g,7,none⟩ (.int .i64 0)).setCell ⟨g,8,none⟩ (.int .i64 0)).setCell ⟨g,9,none⟩ (.int .i64 0)).setCell ⟨g,10,none⟩ (.int .i64 0))=w'∧AP w' g Eo T∧Touch (fun x=>x=g) w w':=by
 have h1:=((((h.set 0 (.int .i64 0)).set 1 (.int .i64 0)).set 2 (.int .i64 0)).set 3 (.int .i64 0)).set 4 (.int .i64 0)
 simp only [List.setIfInBounds_toArray,List.set_cons_zero,List.set_cons_succ] at h1
 have h2:=(((((h1.set 5 (.int .i64 0)).set 6 (.int .i64 0)).set 7 (.int .i64 0)).set 8 (.int .i64 0)).set 9 (.int .i64 0)).set 10 (.int .i64 0)
 simp only [List.setIfInBounds_toArray,List.set_cons_zero,List.set_cons_succ] at h2
 exact ⟨_,rfl,h2,Gj _ _ _ _ _ _ _ _ _ _ _ _ _⟩
set_option maxRecDepth 100000 in
theorem Qw (w:World) (S:Nat→Prop) (v:Value) (bs:List UInt8) (hS:∀ b,S b→b<w.heap.size) (h:AX w S v bs) (hl:bs.length≤140737488355328) :
 Calls Tryz.prog 54 #[v] w fun e w'=>e=.returned (.tuple #[IW (Dw bs).1,.int .i64 (Dw bs).2])∧Below w.heap.size w w':=by
 obtain ⟨A,c,rfl,hc,hr⟩:=h
 have hi:=One.new w (.slice A bs.length c) 22
 obtain ⟨h1,h2,hB2,hz2⟩:=AP.two (w.alloc (.cells #[.slice A bs.length c] 22)) (Eo) (Eo) 69 69
 have hs1:(w.alloc (.cells #[.slice A bs.length c] 22)).heap.size=w.heap.size+1:=World.size_alloc _ _
 rw [hs1] at h1 h2 hB2 hz2
 have hi2:=hi.below hB2 (by omega)
 have hB1:Below w.heap.size w (((w.alloc (.cells #[.slice A bs.length c] 22)).alloc (.cells (Eo) 69)).alloc (.cells (Eo) 69)):=((Below.refl _ _).alloc (Nat.le_refl _) _).trans (hB2.mono (by omega))
 have i0:=hi2.cell
 go_enter Tryz.func54,Tryz.ntmps54
 go_upto_region 2 with fail
 generalize ((w.alloc (.cells #[.slice A bs.length c] 22)).alloc (.cells (Eo) 69)).alloc (.cells (Eo) 69)=w2 at *
 obtain ⟨g,hg⟩:∃ g,w.heap.size=g:=⟨_,rfl⟩
 have hS2:∀ b,S b→b<g:=fun b hb=>by have:=hS b hb;omega
 rw [hg] at h1 h2 hi2 i0 hB1 ⊢
 have HG:=qh hg
 have HB1:=qh hB1
 have HR:Hid (AX w2 S (.slice A bs.length c) bs):=⟨A,c,rfl,hc,hr.keep (AA _) (fun _ h=>h) (AL hB1 hS2)⟩
 clear hi hB2 hz2 hs1 hg hB1 hr hS
 have H1:=qh h1
 have H2:=qh h2
 have HI:=qh hi2
 have hgz:g+1+1<w2.heap.size:=h2.lt
 by_cases hlen:bs.length=244
 · have HL:=qh hlen
   rw [hlen] at i0 HI HR ⊢
   clear hlen hl h1 h2 hi2 hc
   have ha:=One.new w2 (.int .i64 12) 3
   have hB3:Below w2.heap.size w2 (w2.alloc (.cells #[.int .i64 12] 3)):=(Below.refl _ _).alloc (Nat.le_refl _) _
   go_upto_region 5 with fail
   generalize w2.alloc (.cells #[.int .i64 12] 3)=w3 at *
   obtain ⟨ab,hab⟩:∃ x,w2.heap.size=x:=⟨_,rfl⟩
   rw [hab] at ha hB3 hgz ⊢
   have HRK:Hid (AX w3 S (.slice A 244 c) bs):=HR.out.keep (AA _) (fun _ h=>h) (AL hB3 (fun b hb=>by have:=hS2 b hb;omega))
   have yK:=H1.out.below hB3 (by omega)
   have h23:=H2.out.below hB3 (by omega)
   have hi3:=HI.out.below hB3 (by omega)
   have HEA:Hid (Calls Tryz.prog 94 #[.pointer (some ⟨g+1+1,0,none⟩),.func (.func 95) #[] #[.pointer (some ⟨g,0,none⟩),.pointer (some ⟨ab,0,none⟩)]] w3 fun e w'=>e=.returned (.tuple #[])∧AP w' (g+1+1) (Gu (EF bs)) 69∧One w' g (.slice A 244 c) 22∧AP w' (g+1) (Eo) 69∧Below (g+1+1) w3 w'∧AX w' S (.slice A 244 c) bs):=by
    have hbd:=Dk (l:=bs) (a:=28) (n:=4)
    refine (PD w3 95 (g+1+1) #[.pointer (some ⟨g,0,none⟩),.pointer (some ⟨ab,0,none⟩)] (AC bs 28 4:Nat) _ Td (by omega) (by omega) (jL w3 S (g+1+1) g ab (.slice A 244 c) bs (by omega) (by omega) (by omega) (fun b hb=>by have:=hS2 b hb;have:=hB3.size;omega) HRK.out HL.out) ⟨h23,hi3,ha,Touch.refl⟩).mono ?_
    rintro e w' ⟨he,p1,p2,p3,p4⟩
    rw [Ve] at p1
    have hsz:=hB3.size
    exact ⟨he,p1,p2,(p4.block yK.lt (by rintro (e|e) <;> omega)).trans yK,(p4.weak (R':=fun y=>g+1+1≤y) (fun y e=>by rcases e with e|e <;> omega)).below (fun x h=>h) (by omega),HRK.out.keep (AA _) (fun _ h=>h) (Ap p4 (fun b hb=>⟨by have:=hS2 b hb;omega,by have:=hS2 b hb;rintro (e|e) <;> omega⟩))⟩
   have HB3:=qh hB3
   clear ha hB3 yK h23 hi3 HRK HR H1 H2 HI i0
   go_upto_region 6 with (go_at_call 94;(with_reducible refine HEA.out.mono ?_);rintro e w5 ⟨rfl,h25,hi5,h15,BS,pu⟩;have H2:=qh h25;have HI:=qh hi5;have H1:=qh h15;have CE:=qh BS;have HR:=qh pu;clear h25 hi5 h15 BS pu)
   clear HEA
   have x0:=H2.out.at 0 _ rfl
   have x1:=H2.out.at 1 _ rfl
   have x2:=H2.out.at 2 _ rfl
   have x3:=H2.out.at 3 _ rfl
   have x4:=H2.out.at 4 _ rfl
   have x5:=H2.out.at 5 _ rfl
   have x6:=H2.out.at 6 _ rfl
   have x7:=H2.out.at 7 _ rfl
   have x8:=H2.out.at 8 _ rfl
   have x9:=H2.out.at 9 _ rfl
   have Yu:=H2.out.at 10 _ rfl
   have rM:Hid (Calls Tryz.prog 78 #[IW (EF bs)] w5 fun e w'=>Hu w5 (EF bs) e w'∧Below w5.heap.size w5 w'):=QF w5 (EF bs) (by show _≤((AC bs 28 4:Nat):Int);omega) (by have:=Dk (l:=bs) (a:=28) (n:=4);show ((AC bs 28 4:Nat):Int)≤_;omega)
   have ADS:=H2.out.lt
   have HZ:Hid (Below g w w5):=HB1.out.trans ((HB3.out.mono (by omega)).trans (CE.out.mono (by omega)))
   have Xb:Hid (∀ w',Below w5.heap.size w5 w'→(∀ i u,(Gu (EF bs))[i]? = some u→w'.cell? ⟨g+1+1,i,none⟩=some u)∧AP w' (g+1) (Eo) 69∧w'.cell? ⟨g,0,none⟩=some (.slice A 244 c)∧AX w' S (.slice A 244 c) bs):=fun w' hB =>
    ⟨fun i u hu=>(H2.out.below hB ADS).at i u hu,H1.out.below hB H1.out.lt,AQ hB HI.out.lt HI.out.cell,HR.out.keep (AA _) (fun _ h=>h) (AL hB (fun b hb=>by have:=hS2 b hb;omega))⟩
   obtain ⟨s,hs⟩:∃ s,EF bs=s:=⟨_,rfl⟩
   rw [hs] at x0 x1 x2 x3 x4 x5 x6 x7 x8 x9 Yu rM Xb
   have qR:=qh hs
   clear hs H1 H2 HI HR
   by_cases hr:DX s=true
   · have HPY:Hid (Calls Tryz.prog 78 #[IW s] w5 fun e w'=>∃ q,(e=.returned (.tuple #[.slice (some ⟨q,0,none⟩) 244 244,.int .i64 0])∧w5.heap.size≤q∧w'.heap[q]? = some (.cells (AB Au (Dv s)).toArray 5 (0,0)))∧Below w5.heap.size w5 w'):=rM.out.mono fun e w' ⟨h1,h2⟩=>by
       unfold Hu at h1
       rw [if_pos hr] at h1
       obtain ⟨q,h1⟩:=h1
       exact ⟨q,h1,h2⟩
     have lU:=qh hr
     clear hr rM
     go_upto_region 7 with (go_at_call 78;(with_reducible refine HPY.out.mono ?_);rintro e w6 ⟨q,⟨rfl,hq,hqc⟩,EG⟩;have HQ:=qh hqc;have Dz:=qh EG;clear hqc EG)
     clear x0 x1 x2 x3 x4 x5 x6 x7 x8 x9 Yu HPY
     obtain ⟨l6,b6,i6,r6⟩:=Xb.out w6 Dz.out
     have HL6:=qh l6
     have oO:=qh b6
     have hql:q<w6.heap.size:=(Array.getElem?_eq_some_iff.1 HQ.out).1
     have HEQ:Hid (Calls Tryz.prog 97 #[.slice (some ⟨q,0,none⟩) 244 244,.slice A 244 c] w6 fun e w'=>e=.returned (.bool (decide (Dv s=bs)))∧Below w6.heap.size w6 w') :=
      WQ w6 (fun b=>S b∨b=q) _ _ (Dv s) bs (CF.block D8 HQ.out (by simp) (Om s).symm (Nat.le_refl _) (.inr rfl)) (r6.sub (AA _) (fun b hb=>.inl hb)) (by rw [Om];omega) (by rw [HL.out];omega)
     clear l6 b6 r6
     by_cases he:Dv s=bs
     · rw [decide_eq_true he] at HEQ
       have hres:Dw bs=(s,0):=by
        rw [← qR.out] at he lU ⊢
        exact Xg HL.out lU.out he
       have P5:=qh hres
       clear he hres
       go_upto_region 9 with (go_at_call 97;(with_reducible refine HEQ.out.mono ?_);rintro e w7 ⟨rfl,Ff⟩;have Ew:=qh Ff;clear Ff)
       obtain ⟨l7,b7,i7,r7⟩:=Xb.out w7 (Dz.out.trans (Ew.out.mono Dz.out.size))
       have x0:=l7 0 _ rfl
       have x1:=l7 1 _ rfl
       have x2:=l7 2 _ rfl
       have x3:=l7 3 _ rfl
       have x4:=l7 4 _ rfl
       have x5:=l7 5 _ rfl
       have x6:=l7 6 _ rfl
       have x7:=l7 7 _ rfl
       have x8:=l7 8 _ rfl
       have x9:=l7 9 _ rfl
       have Yu:=l7 10 _ rfl
       have y0:=b7.at 0 _ rfl
       have y1:=b7.at 1 _ rfl
       have y2:=b7.at 2 _ rfl
       have y3:=b7.at 3 _ rfl
       have y4:=b7.at 4 _ rfl
       have y5:=b7.at 5 _ rfl
       have y6:=b7.at 6 _ rfl
       have y7:=b7.at 7 _ rfl
       have y8:=b7.at 8 _ rfl
       have y9:=b7.at 9 _ rfl
       have bF:=b7.at 10 _ rfl
       have z0:=b7.free 0
       have z1:=b7.free 1
       have z2:=b7.free 2
       have z3:=b7.free 3
       have z4:=b7.free 4
       have z5:=b7.free 5
       have z6:=b7.free 6
       have z7:=b7.free 7
       have z8:=b7.free 8
       have z9:=b7.free 9
       have kZ:=b7.free 10
       obtain ⟨w8,ew,hbx,htx⟩:=Fp b7 s
       have oP:=qh ew
       have DU:=qh hbx
       have Wh:=qh htx
       clear ew hbx htx
       have AAy:=(Dz.out.trans (Ew.out.mono Dz.out.size)).size
       have HW7:=qh (Dz.out.trans (Ew.out.mono Dz.out.size))
       clear l7 b7 i7 r7 Xb HL6 oO
       go_wp2_with fail
       rw [oP.out]
       have r0:=DU.out.at 0 _ rfl
       have r1:=DU.out.at 1 _ rfl
       have r2:=DU.out.at 2 _ rfl
       have r3:=DU.out.at 3 _ rfl
       have r4:=DU.out.at 4 _ rfl
       have r5:=DU.out.at 5 _ rfl
       have r6:=DU.out.at 6 _ rfl
       have r7:=DU.out.at 7 _ rfl
       have r8:=DU.out.at 8 _ rfl
       have r9:=DU.out.at 9 _ rfl
       have QI:=DU.out.at 10 _ rfl
       exact bodyPost_ret (v:=.tuple #[IW s,.int .i64 0]) (by simp [results,Tryz.results54,go_sem,r0,r1,r2,r3,r4,r5,r6,r7,r8,r9,QI]) rfl ⟨by rw [P5.out],by rw [HG.out];exact HZ.out.trans ((HW7.out.mono (by omega)).trans ((Wh.out.weak (R':=fun y=>g≤y) (fun y e=>by omega)).below (fun x h=>h) (by omega)))⟩
     · rw [decide_eq_false he] at HEQ
       have hres:Dw bs=(LB,7):=bE HL.out (by rw [qR.out];exact he)
       have P5:=qh hres
       clear he hres
       go_upto_region 8 with (go_at_call 97;(with_reducible refine HEQ.out.mono ?_);rintro e w7 ⟨rfl,Ff⟩;have Ew:=qh Ff;clear Ff)
       obtain ⟨l7,b7,i7,r7⟩:=Xb.out w7 (Dz.out.trans (Ew.out.mono Dz.out.size))
       have y0:=b7.at 0 _ rfl
       have y1:=b7.at 1 _ rfl
       have y2:=b7.at 2 _ rfl
       have y3:=b7.at 3 _ rfl
       have y4:=b7.at 4 _ rfl
       have y5:=b7.at 5 _ rfl
       have y6:=b7.at 6 _ rfl
       have y7:=b7.at 7 _ rfl
       have y8:=b7.at 8 _ rfl
       have y9:=b7.at 9 _ rfl
       have bF:=b7.at 10 _ rfl
       have z0:=b7.free 0
       have z1:=b7.free 1
       have z2:=b7.free 2
       have z3:=b7.free 3
       have z4:=b7.free 4
       have z5:=b7.free 5
       have z6:=b7.free 6
       have z7:=b7.free 7
       have z8:=b7.free 8
       have z9:=b7.free 9
       have kZ:=b7.free 10
       obtain ⟨w8,ew,hbx,htx⟩:=FJ b7
       have oP:=qh ew
       have DU:=qh hbx
       have Wh:=qh htx
       clear ew hbx htx
       have AAy:=(Dz.out.trans (Ew.out.mono Dz.out.size)).size
       have HW7:=qh (Dz.out.trans (Ew.out.mono Dz.out.size))
       clear l7 b7 i7 r7 Xb HL6 oO
       go_wp2_with fail
       rw [oP.out]
       have r0:=DU.out.at 0 _ rfl
       have r1:=DU.out.at 1 _ rfl
       have r2:=DU.out.at 2 _ rfl
       have r3:=DU.out.at 3 _ rfl
       have r4:=DU.out.at 4 _ rfl
       have r5:=DU.out.at 5 _ rfl
       have r6:=DU.out.at 6 _ rfl
       have r7:=DU.out.at 7 _ rfl
       have r8:=DU.out.at 8 _ rfl
       have r9:=DU.out.at 9 _ rfl
       have QI:=DU.out.at 10 _ rfl
       exact bodyPost_ret (v:=.tuple #[.agg #[.int .i64 0,.int .i64 0,.int .i64 0,.int .i64 0,.int .i64 0,.int .i64 0,.int .i64 0,.int .i64 0,.int .i64 0,.int .i64 0,.int .i64 0],.int .i64 7]) (by simp [results,Tryz.results54,go_sem,r0,r1,r2,r3,r4,r5,r6,r7,r8,r9,QI]) rfl ⟨by rw [P5.out];rfl,by rw [HG.out];exact HZ.out.trans ((HW7.out.mono (by omega)).trans ((Wh.out.weak (R':=fun y=>g≤y) (fun y e=>by omega)).below (fun x h=>h) (by omega)))⟩
   · have hrf:DX s=false:=by simpa using hr
     have HPY:Hid (Calls Tryz.prog 78 #[IW s] w5 fun e w'=>e=.returned (.tuple #[.slice none 0 0,.int .i64 1])∧Below w5.heap.size w5 w'):=rM.out.mono fun e w' ⟨h1,h2⟩=>by
      unfold Hu at h1
      rw [if_neg hr] at h1
      exact ⟨h1,h2⟩
     have hres:Dw bs=(LB,7):=bC HL.out (by rw [qR.out];exact hrf)
     have P5:=qh hres
     clear hr hrf hres rM
     go_upto_region 8 with (go_at_call 78;(with_reducible refine HPY.out.mono ?_);rintro e w7 ⟨rfl,Ff⟩;have Ew:=qh Ff;clear Ff)
     obtain ⟨l7,b7,i7,r7⟩:=Xb.out w7 Ew.out
     clear x0 x1 x2 x3 x4 x5 x6 x7 x8 x9 Yu
     have y0:=b7.at 0 _ rfl
     have y1:=b7.at 1 _ rfl
     have y2:=b7.at 2 _ rfl
     have y3:=b7.at 3 _ rfl
     have y4:=b7.at 4 _ rfl
     have y5:=b7.at 5 _ rfl
     have y6:=b7.at 6 _ rfl
     have y7:=b7.at 7 _ rfl
     have y8:=b7.at 8 _ rfl
     have y9:=b7.at 9 _ rfl
     have bF:=b7.at 10 _ rfl
     have z0:=b7.free 0
     have z1:=b7.free 1
     have z2:=b7.free 2
     have z3:=b7.free 3
     have z4:=b7.free 4
     have z5:=b7.free 5
     have z6:=b7.free 6
     have z7:=b7.free 7
     have z8:=b7.free 8
     have z9:=b7.free 9
     have kZ:=b7.free 10
     obtain ⟨w8,ew,hbx,htx⟩:=FJ b7
     have oP:=qh ew
     have DU:=qh hbx
     have Wh:=qh htx
     clear ew hbx htx
     have AAy:=Ew.out.size
     clear l7 b7 i7 r7 Xb HPY
     go_wp2_with fail
     rw [oP.out]
     have r0:=DU.out.at 0 _ rfl
     have r1:=DU.out.at 1 _ rfl
     have r2:=DU.out.at 2 _ rfl
     have r3:=DU.out.at 3 _ rfl
     have r4:=DU.out.at 4 _ rfl
     have r5:=DU.out.at 5 _ rfl
     have r6:=DU.out.at 6 _ rfl
     have r7:=DU.out.at 7 _ rfl
     have r8:=DU.out.at 8 _ rfl
     have r9:=DU.out.at 9 _ rfl
     have QI:=DU.out.at 10 _ rfl
     exact bodyPost_ret (v:=.tuple #[.agg #[.int .i64 0,.int .i64 0,.int .i64 0,.int .i64 0,.int .i64 0,.int .i64 0,.int .i64 0,.int .i64 0,.int .i64 0,.int .i64 0,.int .i64 0],.int .i64 7]) (by simp [results,Tryz.results54,go_sem,r0,r1,r2,r3,r4,r5,r6,r7,r8,r9,QI]) rfl ⟨by rw [P5.out];rfl,by rw [HG.out];exact HZ.out.trans ((Ew.out.mono (by omega)).trans ((Wh.out.weak (R':=fun y=>g≤y) (fun y e=>by omega)).below (fun x h=>h) (by omega)))⟩
 · have hn:((bs.length:Int) != 244)=true:=by rw [bne_iff_ne];omega
   have hn2:((bs.length:Int)==244)=false:=by rw [beq_eq_false_iff_ne];omega
   have P5:=qh (Xf hlen)
   clear hlen HR
   generalize bs.length=n at *
   have y0:=h1.at 0 _ rfl
   have y1:=h1.at 1 _ rfl
   have y2:=h1.at 2 _ rfl
   have y3:=h1.at 3 _ rfl
   have y4:=h1.at 4 _ rfl
   have y5:=h1.at 5 _ rfl
   have y6:=h1.at 6 _ rfl
   have y7:=h1.at 7 _ rfl
   have y8:=h1.at 8 _ rfl
   have y9:=h1.at 9 _ rfl
   have bF:=h1.at 10 _ rfl
   have z0:=h1.free 0
   have z1:=h1.free 1
   have z2:=h1.free 2
   have z3:=h1.free 3
   have z4:=h1.free 4
   have z5:=h1.free 5
   have z6:=h1.free 6
   have z7:=h1.free 7
   have z8:=h1.free 8
   have z9:=h1.free 9
   have kZ:=h1.free 10
   have x0:=h2.at 0 _ rfl
   have x1:=h2.at 1 _ rfl
   have x2:=h2.at 2 _ rfl
   have x3:=h2.at 3 _ rfl
   have x4:=h2.at 4 _ rfl
   have x5:=h2.at 5 _ rfl
   have x6:=h2.at 6 _ rfl
   have x7:=h2.at 7 _ rfl
   have x8:=h2.at 8 _ rfl
   have x9:=h2.at 9 _ rfl
   have Yu:=h2.at 10 _ rfl
   obtain ⟨w8,ew,hbx,htx⟩:=FJ h1
   have oP:=qh ew
   have DU:=qh hbx
   have Wh:=qh htx
   clear ew hbx htx
   clear h1 h2 hi2 hc hl HI H1 H2
   go_wp2_with fail
   rw [oP.out]
   have r0:=DU.out.at 0 _ rfl
   have r1:=DU.out.at 1 _ rfl
   have r2:=DU.out.at 2 _ rfl
   have r3:=DU.out.at 3 _ rfl
   have r4:=DU.out.at 4 _ rfl
   have r5:=DU.out.at 5 _ rfl
   have r6:=DU.out.at 6 _ rfl
   have r7:=DU.out.at 7 _ rfl
   have r8:=DU.out.at 8 _ rfl
   have r9:=DU.out.at 9 _ rfl
   have QI:=DU.out.at 10 _ rfl
   exact bodyPost_ret (v:=.tuple #[.agg #[.int .i64 0,.int .i64 0,.int .i64 0,.int .i64 0,.int .i64 0,.int .i64 0,.int .i64 0,.int .i64 0,.int .i64 0,.int .i64 0,.int .i64 0],.int .i64 7]) (by simp [results,Tryz.results54,go_sem,r0,r1,r2,r3,r4,r5,r6,r7,r8,r9,QI]) rfl ⟨by rw [P5.out];rfl,by rw [HG.out];exact HB1.out.trans ((Wh.out.weak (R':=fun y=>g≤y) (fun y e=>by omega)).below (fun x h=>h) (by omega))⟩
end
section
open Go.RowKit Go.Shelf
attribute [local go_sem] Oper.semAt_some
def FC (n:Nat) (l:List UInt8):Int:=if Ol l≠0 then Ol l else if (n:Int)<(EF l).blocks then 2 else 0
theorem LW (l:List UInt8):(Ol l=0∧Dw l=(EF l,0))∨(Ol l=7∧Dw l=(LB,7)):=by
 unfold Dw Ol
 split
 · exact .inl ⟨rfl,rfl⟩
 · exact .inr ⟨rfl,rfl⟩
set_option maxRecDepth 100000 in
theorem Xh (w:World) (S:Nat→Prop) (v:Value) (l:List UInt8) (gm a n c:Nat) (A:Option Addr) (hS:∀ b,S b→b<w.heap.size) (h:AX w S v l) (hl:l.length≤140737488355328) (hgm:gm<w.heap.size) (hm:w.cell? ⟨gm,0,none⟩=some (.pointer (some ⟨a,0,none⟩))) (ha:a<w.heap.size) (hi:w.cell? ⟨a,0,none⟩=some (.slice A n c)) (hn:n≤140737488355328) :
 Calls Tryz.prog 53 #[v,.pointer (some ⟨gm,0,none⟩)] w fun e w'=>e=.returned (.tuple #[IW (Dw l).1,.int .i64 (FC (n / 256) l)])∧Below w.heap.size w w':=by
 have hr1:=AP.new w Eo 69
 have hB1:Below w.heap.size w (w.alloc (.cells Eo 69)):=(Below.refl _ _).alloc (Nat.le_refl _) _
 have Lc:=qh (Qw (w.alloc (.cells Eo 69)) S v l (fun b hb=>Nat.lt_of_lt_of_le (hS b hb) hB1.size) (h.keep (AA _) (fun _ h=>h) (AL hB1 hS)) hl)
 have hIB:Hid (∀ w',Below w.heap.size w w'→w'.cell? ⟨gm,0,none⟩=some (.pointer (some ⟨a,0,none⟩))∧Calls Tryz.prog 42 #[.pointer (some ⟨a,0,none⟩)] w' fun e w''=>e=.returned (.int .i64 ((n / 256:Nat):Int))∧w''=w'):=fun w' hB=>⟨AQ hB hgm hm,by
  have:=CR w' a A n c (AQ hB ha hi) hn
  rw [show ((n:Int) / 256)=((n / 256:Nat):Int) from by omega] at this
  exact this.mono fun e w'' ⟨h1,h2⟩=>⟨h1,h2.symm⟩⟩
 have HE:Hid (FC (n / 256) l=if (Dw l).2≠0 then 7 else if ((n / 256:Nat):Int)<(EF l).blocks then 2 else 0):=by
  show _=_
  unfold FC
  rcases LW l with ⟨h1,h2⟩|⟨h1,h2⟩ <;> rw [h1,h2] <;> simp
 have HC:=qh (LW l)
 obtain ⟨⟨s,E⟩,hs⟩:∃ x,Dw l=x:=⟨_,rfl⟩
 have qR:=qh hs
 rw [hs] at Lc HE ⊢
 have fE:Hid ((E=0∧s=EF l)∨(E=7∧s=LB)):=by
  rcases HC.out with ⟨_,h2⟩|⟨_,h2⟩
  · rw [hs] at h2;injection h2 with h3 h4;exact .inl ⟨h4,h3⟩
  · rw [hs] at h2;injection h2 with h3 h4;exact .inr ⟨h4,h3⟩
 obtain ⟨A5,c5,rfl,hc5,pu⟩:=h
 clear hs pu hc5 hm hi HC hS hl
 generalize l.length=ln at *
 go_enter Tryz.func53,Tryz.ntmps53
 go_upto_region 1 with fail
 generalize w.alloc (.cells Eo 69)=w1 at *
 have HB1:=qh hB1
 have HR1:=qh hr1
 clear hB1 hr1
 dsimp only at Lc
 go_upto_region 2 with (go_at_call 54;(with_reducible refine Lc.out.mono ?_);rintro e w2 ⟨rfl,hB2⟩;have HB2:=qh hB2;clear hB2)
 have hb3:=AP.new w2 (Gu s) 69
 have hB3:Below w2.heap.size w2 (w2.alloc (.cells (Gu s) 69)):=(Below.refl _ _).alloc (Nat.le_refl _) _
 generalize w2.alloc (.cells (Gu s) 69)=w3 at *
 have HR3:=qh (((HR1.out.below HB2.out HR1.out.lt).below hB3 (by have:=HB2.out.size;have:=HR1.out.lt;omega)))
 have I1:=qh (HB1.out.trans ((HB2.out.trans (hB3.mono HB2.out.size)).mono HB1.out.size))
 obtain ⟨m3,hib⟩:=hIB.out w3 I1.out
 have uz:=qh hib
 have x0:=hb3.at 0 _ rfl
 have x1:=hb3.at 1 _ rfl
 have x2:=hb3.at 2 _ rfl
 have x3:=hb3.at 3 _ rfl
 have x4:=hb3.at 4 _ rfl
 have x5:=hb3.at 5 _ rfl
 have x6:=hb3.at 6 _ rfl
 have x7:=hb3.at 7 _ rfl
 have x8:=hb3.at 8 _ rfl
 have x9:=hb3.at 9 _ rfl
 have Yu:=hb3.at 10 _ rfl
 have y0:=HR3.out.at 0 _ rfl
 have y1:=HR3.out.at 1 _ rfl
 have y2:=HR3.out.at 2 _ rfl
 have y3:=HR3.out.at 3 _ rfl
 have y4:=HR3.out.at 4 _ rfl
 have y5:=HR3.out.at 5 _ rfl
 have y6:=HR3.out.at 6 _ rfl
 have y7:=HR3.out.at 7 _ rfl
 have y8:=HR3.out.at 8 _ rfl
 have y9:=HR3.out.at 9 _ rfl
 have bF:=HR3.out.at 10 _ rfl
 have z0:=HR3.out.free 0
 have z1:=HR3.out.free 1
 have z2:=HR3.out.free 2
 have z3:=HR3.out.free 3
 have z4:=HR3.out.free 4
 have z5:=HR3.out.free 5
 have z6:=HR3.out.free 6
 have z7:=HR3.out.free 7
 have z8:=HR3.out.free 8
 have z9:=HR3.out.free 9
 have kZ:=HR3.out.free 10
 have Qj:Hid (∀ m,∃ w8,((((((((((((w3.drewN m).setCell ⟨w.heap.size,0,none⟩ (.int .i64 s.tx)).setCell ⟨w.heap.size,1,none⟩ (.int .i64 s.time)).setCell ⟨w.heap.size,2,none⟩ (.int .i64 s.unit)).setCell ⟨w.heap.size,3,none⟩ (.int .i64 s.data)).setCell ⟨w.heap.size,4,none⟩ (.int .i64 s.blocks)).setCell ⟨w.heap.size,5,none⟩ (.int .i64 s.top)).setCell ⟨w.heap.size,6,none⟩ (.int .i64 s.BQ)).setCell ⟨w.heap.size,7,none⟩ (.int .i64 s.FD)).setCell ⟨w.heap.size,8,none⟩ (.int .i64 s.Hg)).setCell ⟨w.heap.size,9,none⟩ (.int .i64 s.FE)).setCell ⟨w.heap.size,10,none⟩ (.int .i64 s.mover))=w8∧AP w8 w.heap.size (Gu s) 69∧Touch (fun x=>x=w.heap.size) (w3.drewN m) w8):=fun m=>Fp (w:=w3.drewN m) HR3.out s
 have hsz:w.heap.size≤w3.heap.size:=I1.out.size
 have HQB:Hid (∀ m,Calls Tryz.prog 42 #[.pointer (some ⟨a,0,none⟩)] (w3.drewN m) fun e w''=>e=.returned (.int .i64 ((n / 256:Nat):Int))∧w''=w3.drewN m):=fun m=>(hIB.out (w3.drewN m) (Ay I1.out m)).2
 clear Lc hIB hib hb3 hB3 HB2 uz
 by_cases hE:E=0
 · subst hE
   by_cases hb:((n / 256:Nat):Int)<s.blocks
   · have HF:Hid (FC (n / 256) l=2):=by
       show _=_
       rw [HE.out,if_neg (by simp)]
       rcases fE.out with ⟨_,h⟩|⟨h,_⟩
       · rw [← h,if_pos hb]
       · cases h
     have d1:decide (((n / 256:Nat):Int)<s.blocks)=true:=decide_eq_true hb
     go_upto_region 2 with fail
     go_quiet ((go_at_call 42;exact Calls.quiet_of_same (HQB.out _)))
     go_wp2_with fail
     obtain ⟨w8,ew,hbx,htx⟩:=Qj.out _
     rw [ew]
     have r0:=hbx.at 0 _ rfl
     have r1:=hbx.at 1 _ rfl
     have r2:=hbx.at 2 _ rfl
     have r3:=hbx.at 3 _ rfl
     have r4:=hbx.at 4 _ rfl
     have r5:=hbx.at 5 _ rfl
     have r6:=hbx.at 6 _ rfl
     have r7:=hbx.at 7 _ rfl
     have r8:=hbx.at 8 _ rfl
     have r9:=hbx.at 9 _ rfl
     have QI:=hbx.at 10 _ rfl
     exact bodyPost_ret (v:=.tuple #[.agg #[.int .i64 s.tx,.int .i64 s.time,.int .i64 s.unit,.int .i64 s.data,.int .i64 s.blocks,.int .i64 s.top,.int .i64 s.BQ,.int .i64 s.FD,.int .i64 s.Hg,.int .i64 s.FE,.int .i64 s.mover],.int .i64 2]) (by simp [results,Tryz.results53,go_sem,r0,r1,r2,r3,r4,r5,r6,r7,r8,r9,QI]) rfl ⟨by rw [HF.out],I1.out.trans (((Touch.drewN (R:=fun x=>x=w.heap.size) _).trans htx).below (fun x h=>by omega) hsz)⟩
   · have HF:Hid (FC (n / 256) l=0):=by
       show _=_
       rw [HE.out,if_neg (by simp)]
       rcases fE.out with ⟨_,h⟩|⟨h,_⟩
       · rw [← h,if_neg hb]
       · cases h
     have d1:decide (((n / 256:Nat):Int)<s.blocks)=false:=decide_eq_false hb
     go_upto_region 2 with fail
     go_quiet ((go_at_call 42;exact Calls.quiet_of_same (HQB.out _)))
     go_wp2_with fail
     obtain ⟨w8,ew,hbx,htx⟩:=Qj.out _
     rw [ew]
     have r0:=hbx.at 0 _ rfl
     have r1:=hbx.at 1 _ rfl
     have r2:=hbx.at 2 _ rfl
     have r3:=hbx.at 3 _ rfl
     have r4:=hbx.at 4 _ rfl
     have r5:=hbx.at 5 _ rfl
     have r6:=hbx.at 6 _ rfl
     have r7:=hbx.at 7 _ rfl
     have r8:=hbx.at 8 _ rfl
     have r9:=hbx.at 9 _ rfl
     have QI:=hbx.at 10 _ rfl
     exact bodyPost_ret (v:=.tuple #[.agg #[.int .i64 s.tx,.int .i64 s.time,.int .i64 s.unit,.int .i64 s.data,.int .i64 s.blocks,.int .i64 s.top,.int .i64 s.BQ,.int .i64 s.FD,.int .i64 s.Hg,.int .i64 s.FE,.int .i64 s.mover],.int .i64 0]) (by simp [results,Tryz.results53,go_sem,r0,r1,r2,r3,r4,r5,r6,r7,r8,r9,QI]) rfl ⟨by rw [HF.out],I1.out.trans (((Touch.drewN (R:=fun x=>x=w.heap.size) _).trans htx).below (fun x h=>by omega) hsz)⟩
 · have hE7:E=7:=by
     rcases fE.out with ⟨h,_⟩|⟨h,_⟩
     · exact absurd h hE
     · exact h
   subst hE7
   have HF:Hid (FC (n / 256) l=7):=by
    show _=_
    rw [HE.out,if_pos (by simp)]
   go_upto_region 2 with fail
   go_quiet (fail)
   go_wp2_with fail
   obtain ⟨w8,ew,hbx,htx⟩:=Qj.out _
   rw [ew]
   have r0:=hbx.at 0 _ rfl
   have r1:=hbx.at 1 _ rfl
   have r2:=hbx.at 2 _ rfl
   have r3:=hbx.at 3 _ rfl
   have r4:=hbx.at 4 _ rfl
   have r5:=hbx.at 5 _ rfl
   have r6:=hbx.at 6 _ rfl
   have r7:=hbx.at 7 _ rfl
   have r8:=hbx.at 8 _ rfl
   have r9:=hbx.at 9 _ rfl
   have QI:=hbx.at 10 _ rfl
   exact bodyPost_ret (v:=.tuple #[.agg #[.int .i64 s.tx,.int .i64 s.time,.int .i64 s.unit,.int .i64 s.data,.int .i64 s.blocks,.int .i64 s.top,.int .i64 s.BQ,.int .i64 s.FD,.int .i64 s.Hg,.int .i64 s.FE,.int .i64 s.mover],.int .i64 7]) (by simp [results,Tryz.results53,go_sem,r0,r1,r2,r3,r4,r5,r6,r7,r8,r9,QI]) rfl ⟨by rw [HF.out],I1.out.trans (((Touch.drewN (R:=fun x=>x=w.heap.size) _).trans htx).below (fun x h=>by omega) hsz)⟩
end
end Go.Proofs.YtpenklpdjpkigaaGreat
