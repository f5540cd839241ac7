/- A part of the proof: WNode2, WNode3, NodeM. -/
import Derived.Test.YthblbddmcdnllaaGreatDoorX9
import Derived.Test.YthblbddmcdnllaaGreatDoorY1
import Derived.Deep.Cut
import Derived.Deep.DeepCutAuto
import Derived.Test.YthblbddmcdnllaaGreatDoorX1
set_option maxHeartbeats 6400000
set_option linter.unusedVariables false
set_option linter.unusedSimpArgs false
namespace Go.Proofs.YthblbddmcdnllaaGreatDoor
section
open Go.RowKit
attribute [local go_sem] Oper.semAt_some
def I1 (n:Nat) (prev k:Int):Int:=if k<0∨281474976710655<k then 2 else if 0<n∧k≤prev then 8 else 0
theorem YX (w:World) (A:Option Addr) (n c:Nat) (prev k:Int) (hn:n≤1000000) (h:0<n→∃ b off,A=some ⟨b,off,none⟩∧w.cell? ⟨b,off+(n-1),none⟩=some (.int .i64 prev)) :
 Calls Tryz.prog 157 #[.slice A n c,.int .i64 k] w fun e w'=>e=.returned (.int .i64 (I1 n prev k))∧w'=w:=by
 by_cases h1:k<0
 · have HK:Hid (I1 n prev k=2):=if_pos (.inl h1)
   clear h
   go_enter Tryz.func157,Tryz.ntmps157
   go_wp2
   go_ret
   exact ⟨by rw [HK.out];rfl,rfl⟩
 · by_cases h2:281474976710655<k
   · have HK:Hid (I1 n prev k=2):=if_pos (.inr h2)
     clear h
     go_enter Tryz.func157,Tryz.ntmps157
     go_wp2
     go_ret
     exact ⟨by rw [HK.out];rfl,rfl⟩
   · by_cases h3:0<n
     · obtain ⟨b,off,rfl,q⟩:=h h3
       have hd:decide (0<n)=true:=decide_eq_true h3
       have e0:IntKind.i64.wrap ((n:Int)-1)=((n-1:Nat):Int):=by rw [IntKind.wrap_i64];omega
       have hlt:((n-1:Nat):Int)<(n:Int):=by omega
       by_cases h4:k≤prev
       · have HK:Hid (I1 n prev k=8):=by show _=_;unfold I1;rw [if_neg (by omega),if_pos ⟨h3,h4⟩]
         generalize n-1=m at *
         have hge:prev ≥ k:=h4
         go_enter Tryz.func157,Tryz.ntmps157
         go_wp2
         go_ret
         exact ⟨by rw [HK.out];rfl,rfl⟩
       · have HK:Hid (I1 n prev k=0):=by show _=_;unfold I1;rw [if_neg (by omega),if_neg (by omega)]
         generalize n-1=m at *
         have hge:¬ prev ≥ k:=h4
         go_enter Tryz.func157,Tryz.ntmps157
         go_wp2
         go_ret
         exact ⟨by rw [HK.out];rfl,rfl⟩
     · obtain rfl:n=0:=by omega
       have HK:Hid (I1 0 prev k=0):=by show _=_;unfold I1;rw [if_neg (by omega),if_neg (by omega)]
       clear h h3
       go_enter Tryz.func157,Tryz.ntmps157
       go_wp2
       go_ret
       exact ⟨by rw [HK.out];rfl,rfl⟩
end
section
open Go.RowKit
attribute [local go_sem] Oper.semAt_some
def bY:List Nat:=[1,1,2,2,2,4]
theorem pq (l:List UInt8):Df l 0 bY=[(AC l 0 1:Int),(AC l 1 1:Int),(AC l 2 2:Int),(AC l 4 2:Int),(AC l 6 2:Int),(AC l 8 4:Int)]:=rfl
def wG (w:World) (B:Nat) (A:Option Addr) (l:List Int):Prop:=∃ b off,A=some ⟨b,off,none⟩∧B≤b∧b<w.heap.size∧∀ k,k<6→w.cell? ⟨b,off+k,none⟩=some (.int .i64 (nth 0 l k))
theorem YY (w:World) (S:Nat→Prop) (v:Value) (l:List UInt8) (g:Nat) (hS:∀ b,S b→b<w.heap.size) (h:AU w S v l) (hl:l.length=244) (hg:w.heap[g]? = some (.cells #[.int .i64 1,.int .i64 1,.int .i64 2,.int .i64 2,.int .i64 2,.int .i64 4] 3 (0,0))) :
 Calls Tryz.prog 184 #[v,.slice (some ⟨g,0,none⟩) 6 6] w fun e w'=>(∃ A c,e=.returned (.tuple #[.slice A 6 c,.int .i64 0])∧6≤c∧wG w' w.heap.size A (Df l 0 bY))∧Below w.heap.size w w':=by
 have hgs:g<w.heap.size:=(Array.getElem?_eq_some_iff.1 hg).1
 refine (LV w (fun b=>S b∨b=g) v (.slice (some ⟨g,0,none⟩) 6 6) l bY (fun b hb=>hb.elim (hS b) (fun e=>by omega)) (h.sub (AB _) (fun _ h=>.inl h)) ?_ ?_ ?_ (by omega) (by decide)).mono ?_
 · exact Bp.block (enc:=fun n:Int=>[.int .i64 n]) (fun _=>rfl) hg (by rfl) rfl (by omega) (.inr rfl)
 · intro x hx
   simp [bY] at hx
   unfold Nk
   omega
 · rw [hl];decide
 · rintro e w' ⟨hU,hB⟩
   refine ⟨?_,hB⟩
   unfold LU at hU
   rw [if_neg (by rw [K6 l bY 0 (by intro x hx;simp [bY] at hx;omega)];simp)] at hU
   obtain ⟨v,rfl,A,c,rfl,hc,hr⟩:=hU
   rw [Fx] at hc
   obtain ⟨b,off,e,hb,hcl⟩:=Be hr (by rw [Fx];decide)
   rw [Fx] at hcl
   exact ⟨A,c,by rw [Fx];rfl,hc,b,off,e,hb.1,hb.2,hcl⟩
def TL (b:List UInt8) (e:Ending):Prop:=∃ (t:Int) (lf:Bool) (c:Int) (ok:Bool),e=.returned (.tuple #[.agg #[.int .i64 t,.bool lf,.slice none 0 0,.slice none 0 0],.int .i64 c,.bool ok])∧ok=EW b∧(ok=true→t=AC b 1 1∧lf=decide (AC b 0 1=1)∧c=AC b 2 2)
theorem RL {b:List UInt8} (h:b.length≠244):EW b=false:=by unfold EW;rw [decide_eq_false h];rfl
theorem UQ {l:List UInt8} (h:l.length=244):EW l=(decide (AC l 0 1≤1) && decide (Ah (AC l 1 1) ((AC l 0 1:Int)==1)≠0) && decide (AC l 2 2≤BH (AC l 1 1) ((AC l 0 1:Int)==1)) &&
 decide (AC l 4 2=Ah (AC l 1 1) ((AC l 0 1:Int)==1)) && decide (AC l 6 2=BH (AC l 1 1) ((AC l 0 1:Int)==1)) && decide (AC l 8 4=0) && (((AC l 0 1:Int)==1) || decide (0<AC l 2 2))):=by
 have e:decide (AC l 0 1=1)=((AC l 0 1:Int)==1):=by
  rw [Bool.eq_iff_iff];simp;omega
 unfold EW
 rw [decide_eq_true h,e,Bool.true_and]
theorem YZ (n:Nat):((n:Int)==1)=decide (n=1):=by rw [Bool.eq_iff_iff];simp;omega
def AP (w:World) (g:Nat) (t:Int) (lf:Bool) (kv vv:Value):Prop:=w.heap[g]? = some (.cells #[.int .i64 t,.bool lf,kv,vv] 125 (0,0))
theorem AP.cells {w:World} {g:Nat} {t:Int} {lf:Bool} {kv vv:Value} (h:AP w g t lf kv vv):w.cell? ⟨g,0,none⟩=some (.int .i64 t)∧w.cell? ⟨g,1,none⟩=some (.bool lf)∧w.cell? ⟨g,2,none⟩=some kv∧w.cell? ⟨g,3,none⟩=some vv:=by
 unfold AP at h
 simp [World.cell?,h]
theorem AP.below {w w':World} {B g:Nat} {t:Int} {lf:Bool} {kv vv:Value} (h:AP w g t lf kv vv) (hB:Below B w w') (hg:g<B):AP w' g t lf kv vv:=(hB.block g hg).trans h
theorem AP.lt {w:World} {g:Nat} {t:Int} {lf:Bool} {kv vv:Value} (h:AP w g t lf kv vv):g<w.heap.size:=(Array.getElem?_eq_some_iff.1 h).1
theorem AP.free {w:World} {g:Nat} {t:Int} {lf:Bool} {kv vv:Value} (h:AP w g t lf kv vv):w.frozen? ⟨g,0,none⟩=false∧w.frozen? ⟨g,1,none⟩=false∧w.frozen? ⟨g,2,none⟩=false∧w.frozen? ⟨g,3,none⟩=false:=by
 unfold AP at h
 simp [World.frozen?,h]
theorem AP.put {w:World} {g:Nat} {t:Int} {lf:Bool} {kv vv:Value} (h:AP w g t lf kv vv) (t':Int) (lf':Bool) (kv' vv':Value):AP ((((w.setCell ⟨g,0,none⟩ (.int .i64 t')).setCell ⟨g,1,none⟩ (.bool lf')).setCell ⟨g,2,none⟩ kv').setCell ⟨g,3,none⟩ vv') g t' lf' kv' vv':=by
 unfold AP at *
 simp [World.setCell,Array.getElem?_modify,h]
theorem AP.UR {w:World} {g b:Nat} {t:Int} {lf:Bool} {kv vv:Value} (h:AP w g t lf kv vv) (hb:b≠g) (u0 u1 u2 u3:Value):AP ((((w.setCell ⟨b,0,none⟩ u0).setCell ⟨b,1,none⟩ u1).setCell ⟨b,2,none⟩ u2).setCell ⟨b,3,none⟩ u3) g t lf kv vv:=by
 unfold AP at *
 have hb':g≠b:=Ne.symm hb
 rw [Below.heap_setCell _ ⟨b,3,none⟩ u3 g hb',Below.heap_setCell _ ⟨b,2,none⟩ u2 g hb',Below.heap_setCell _ ⟨b,1,none⟩ u1 g hb',Below.heap_setCell _ ⟨b,0,none⟩ u0 g hb']
 exact h
theorem CZ {w:World} {b c o:Nat} (hb:b≠c) (u0 u1 u2 u3:Value):((((w.setCell ⟨b,0,none⟩ u0).setCell ⟨b,1,none⟩ u1).setCell ⟨b,2,none⟩ u2).setCell ⟨b,3,none⟩ u3).cell? ⟨c,o,none⟩=w.cell? ⟨c,o,none⟩:=by
 have hb':c≠b:=Ne.symm hb
 apply World.cell?_of_block
 rw [Below.heap_setCell _ ⟨b,3,none⟩ u3 c hb',Below.heap_setCell _ ⟨b,2,none⟩ u2 c hb',Below.heap_setCell _ ⟨b,1,none⟩ u1 c hb',Below.heap_setCell _ ⟨b,0,none⟩ u0 c hb']
theorem AP.drewN {w:World} {g:Nat} {t:Int} {lf:Bool} {kv vv:Value} (h:AP w g t lf kv vv) (n:Nat):AP (w.drewN n) g t lf kv vv:=h
theorem C8 {w0 w:World} {B b:Nat} (h:Below B w0 w) (hb:B≤b) (u0 u1 u2 u3:Value) :
 Below B w0 ((((w.setCell ⟨b,0,none⟩ u0).setCell ⟨b,1,none⟩ u1).setCell ⟨b,2,none⟩ u2).setCell ⟨b,3,none⟩ u3) :=
 (((h.setCell (p:=⟨b,0,none⟩) hb u0).setCell (p:=⟨b,1,none⟩) hb u1).setCell (p:=⟨b,2,none⟩) hb u2).setCell (p:=⟨b,3,none⟩) hb u3
set_option maxRecDepth 100000 in
theorem UT (w:World) (S:Nat→Prop) (v:Value) (l:List UInt8) (hS:∀ b,S b→b<w.heap.size) (h:AU w S v l) (hl:l.length≤140737488355328) :
 Calls Tryz.prog 155 #[v] w fun e w'=>TL l e∧Below w.heap.size w w':=by
 have h0:=h
 obtain ⟨A,c,rfl,hc,hr⟩:=h
 by_cases hlen:l.length=244
 · rw [hlen] at h0 ⊢
   have HU:Hid (∀ wx,Below w.heap.size w wx→∀ g,wx.heap[g]? = some (.cells #[.int .i64 1,.int .i64 1,.int .i64 2,.int .i64 2,.int .i64 2,.int .i64 4] 3 (0,0))→Calls Tryz.prog 184 #[.slice A 244 c,.slice (some ⟨g,0,none⟩) 6 6] wx fun e w'=>(∃ A c,e=.returned (.tuple #[.slice A 6 c,.int .i64 0])∧6≤c∧wG w' wx.heap.size A (Df l 0 bY))∧Below wx.heap.size wx w'):=fun wx hB g hg=>YY wx S _ l g (fun b hb=>Nat.lt_of_lt_of_le (hS b hb) hB.size) (h0.keep (AB _) (fun _ h=>h) (AR hB hS)) hlen hg
   clear h0 hr
   go_enter Tryz.func155,Tryz.ntmps155
   go_upto_region 3 with fail
   have hg:=heap_alloc_new (w.alloc (.cells #[.int .i64 0,.bool false,.slice none 0 0,.slice none 0 0] 125)) (.cells #[.int .i64 1,.int .i64 1,.int .i64 2,.int .i64 2,.int .i64 2,.int .i64 4] 3)
   have hB1:Below w.heap.size w ((w.alloc (.cells #[.int .i64 0,.bool false,.slice none 0 0,.slice none 0 0] 125)).alloc (.cells #[.int .i64 1,.int .i64 1,.int .i64 2,.int .i64 2,.int .i64 2,.int .i64 4] 3)):=((Below.refl _ _).alloc (Nat.le_refl _) _).alloc (by simp) _
   have hr:=heap_alloc_new w (.cells #[.int .i64 0,.bool false,.slice none 0 0,.slice none 0 0] 125)
   have hU:=qh (HU.out _ hB1 _ hg)
   rw [World.size_alloc] at hU
   go_upto_region 4 with (go_at_call 184;refine hU.out.mono ?_;rintro e w3 ⟨⟨A3,c3,rfl,hc3,h6⟩,hB3⟩)
   obtain ⟨b3,o3,rfl,pu,hb3,hcl⟩:=h6
   rw [World.size_alloc,World.size_alloc] at pu
   rw [pq] at hcl
   have k0:w3.cell? ⟨b3,o3,none⟩=some (.int .i64 (AC l 0 1:Nat)):=hcl 0 (by omega)
   have k1:w3.cell? ⟨b3,o3+1,none⟩=some (.int .i64 (AC l 1 1:Nat)):=hcl 1 (by omega)
   have k2:w3.cell? ⟨b3,o3+2,none⟩=some (.int .i64 (AC l 2 2:Nat)):=hcl 2 (by omega)
   have k3:w3.cell? ⟨b3,o3+3,none⟩=some (.int .i64 (AC l 4 2:Nat)):=hcl 3 (by omega)
   have k4:w3.cell? ⟨b3,o3+4,none⟩=some (.int .i64 (AC l 6 2:Nat)):=hcl 4 (by omega)
   have k5:w3.cell? ⟨b3,o3+5,none⟩=some (.int .i64 (AC l 8 4:Nat)):=hcl 5 (by omega)
   have RN:=qh (UQ hlen)
   have LX:Hid (EW l=true→((AC l 1 1:Nat):Int)=AC l 1 1∧((AC l 0 1:Int)==1)=decide (AC l 0 1=1)∧((AC l 2 2:Nat):Int)=AC l 2 2):=fun _=>⟨rfl,YZ _,rfl⟩
   have hq0:AC l 0 1<256:=EF
   have hq2:AC l 2 2<65536:=EF
   have hq3:AC l 4 2<65536:=EF
   have hq4:AC l 6 2<65536:=EF
   have hq5:AC l 8 4<4294967296:=EF
   have jH:Hid (∀ e,(∃ (t:Int) (lf:Bool) (c:Int) (ok:Bool),e=.returned (.tuple #[.agg #[.int .i64 t,.bool lf,.slice none 0 0,.slice none 0 0],.int .i64 c,.bool ok])∧ok=EW l∧(ok=true→t=AC l 1 1∧lf=decide (AC l 0 1=1)∧c=AC l 2 2))→TL l e):=fun e h=>h
   have hr3:AP w3 w.heap.size 0 false (.slice none 0 0) (.slice none 0 0):=(hB3.block _ (by simp;omega)).trans ((Below.heap_alloc _ _ _ (by simp)).trans hr)
   have hBw3:Below w.heap.size w w3:=hB1.trans (hB3.mono (by simp;omega))
   have HR3:=qh hr3
   have jI:=qh hBw3
   clear hcl hU hg hr hB1 hB3 hr3 hBw3
   generalize AC l 0 1=q0 at *
   generalize AC l 1 1=q1 at *
   generalize AC l 2 2=q2 at *
   generalize AC l 4 2=q3 at *
   generalize AC l 6 2=q4 at *
   generalize AC l 8 4=q5 at *
   generalize EW l=sb at *
   refine AJ (T:=fun j=>j==9) (S:=fun w'=>Below w3.heap.size w3 w') (by kernel_rfl) (Below.refl w3.heap.size w3).drew (fun hHeld=>?_)
   have hkr:Below w3.heap.size w3 w3.drew:=(Below.refl w3.heap.size w3).drew
   refine qs 0 21 hHeld ?_
   refine qs 1 22 hHeld ?_
   refine qf 2 23 rfl rfl hHeld (by intro w hSw;have k0:=AY hSw hb3 k0;have k1:=AY hSw hb3 k1;go_simp;(try with_reducible rfl)) ?_
   refine qs 3 24 hHeld ?_
   refine qs 4 25 hHeld ?_
   refine qf 5 26 rfl rfl hHeld (by intro w hSw;have k0:=AY hSw hb3 k0;have k1:=AY hSw hb3 k1;go_simp;(try with_reducible rfl)) ?_
   refine qs 6 27 hHeld ?_
   refine qs 7 28 hHeld ?_
   refine qo 8 fun K hK=>?_
   go_simp
   refine hK.out _ _ (fun _=>(Below.refl _ _).drew.alloc (Nat.le_refl _) _) (fun _=>?_)
   clear hK K
   (try simp only [Act.put,qS,qZ,qU])
   refine qo 9 fun K hK=>?_
   go_simp
   refine hK.out _ _ (fun h=>by cases h) (fun _=>?_)
   clear hK K hHeld
   (try simp only [Act.put,qS,qZ,qU])
   refine qd ?_
   obtain ⟨w4,hw4⟩:∃ x,(w3.alloc (.cells #[.int .i64 q1,.bool ((q0:Int)==1),.slice none 0 0,.slice none 0 0] 125)).drew=x:=⟨_,rfl⟩
   have bZ:AP w4 w3.heap.size q1 ((q0:Int)==1) (.slice none 0 0) (.slice none 0 0):=by rw [← hw4];exact heap_alloc_new w3 _
   have hB4:Below w3.heap.size w3 w4:=by rw [← hw4];exact ((Below.refl _ _).alloc (Nat.le_refl _) _).drew
   rw [hw4]
   have HR4:=qh (HR3.out.below hB4 (by have:=HR3.out.lt;omega))
   have Ya:=qh (jI.out.trans (hB4.mono jI.out.size))
   have k0:=AY hB4 hb3 k0
   have k2:=AY hB4 hb3 k2
   have k3:=AY hB4 hb3 k3
   have k4:=AY hB4 hb3 k4
   have k5:=AY hB4 hb3 k5
   have hlt:w3.heap.size<w4.heap.size:=bZ.lt
   have Yb:w.heap.size<w4.heap.size:=HR4.out.lt
   obtain ⟨x0,x1,x2,x3⟩:=bZ.cells
   clear hw4 hB4 k1
   have wH:Hid (((q0:Int)==1)=false→¬ q0=1):=fun h e=>by subst e;cases h
   generalize ((q0:Int)==1)=lf at *
   have HW:=qh (fun w'=>EY w' (q1:Int) lf)
   have HM:=qh (fun w'=>El w' (q1:Int) lf)
   have hwc:=GQ (q1:Int) lf
   generalize Ah (q1:Int) lf=W at *
   generalize BH (q1:Int) lf=M at *
   obtain ⟨f0,f1,f2,f3⟩:=HR4.out.free
   obtain ⟨r0,r1,r2,r3⟩:=HR4.out.cells
   by_cases g0:q0≤1
   · by_cases gw:W=0
     · as_aux_lemma =>
       subst gw
       have Me:Hid (sb=false):=by show _=_;rw [RN.out];simp
       have hz:decide ((1:Int)<(q0:Int))=false:=decide_eq_false (by omega)
       obtain ⟨z0,z1,z2,z3⟩:=(HR4.out.put 0 false (.slice none 0 0) (.slice none 0 0)).cells
       have BX:=C8 Ya.out (Nat.le_refl _) (.int .i64 0) (.bool false) (.slice none 0 0) (.slice none 0 0)
       have DT:=qh BX
       clear BX hwc
       go_wp2_with (go_at_call 97;refine (HW.out _).mono ?_;rintro e w4 ⟨rfl,rfl⟩)
       refine bodyPost_ret (v:=.tuple #[.agg #[.int .i64 0,.bool false,.slice none 0 0,.slice none 0 0],.int .i64 0,.bool false]) (by simp [results,Tryz.results155,go_sem,z0,z1,z2,z3]) rfl ⟨jH.out _ ⟨0,false,0,false,rfl,Me.out.symm,fun h=>by cases h⟩,DT.out⟩
     · have hz:decide ((1:Int)<(q0:Int))=false:=decide_eq_false (by omega)
       have hw0:((W:Int)==0)=false:=beq_false_of_ne (by omega)
       go_upto_region 7 with (go_at_call 97;refine (HW.out _).mono ?_;rintro e w4 ⟨rfl,rfl⟩)
       go_quiet ((first
        | (go_at_call 97;exact Calls.quiet_of_same (HW.out _))
        | (go_at_call 53;exact Calls.quiet_of_same (HM.out _))))
       go_upto_region 8 with fail
       obtain ⟨w5,bf⟩:∃ x,w4.drewN nq=x:=⟨_,rfl⟩
       have BX:Below w4.heap.size w4 w5:=by rw [← bf];exact AV (Below.refl _ _) _
       rw [bf]
       clear bf
       have DT:=qh BX
       have k2:=AY BX (by omega) k2
       have k3:=AY BX (by omega) k3
       have k4:=AY BX (by omega) k4
       have k5:=AY BX (by omega) k5
       have x1:=AY BX hlt x1
       clear BX
       go_cut [10] (fun v wx=>v=.bool sb∧wx=w5)
       case first =>
        have hq2:(q2:Int)<65536:=by omega
        by_cases g1:q2≤M
        · by_cases g3:q3=W
          · by_cases g4:q4=M
            · by_cases g5:q5=0
              · cases lf with
                | true =>
                 · as_aux_lemma =>
                   have Me:Hid (sb=true):=by show _=_;rw [RN.out,decide_eq_true g0,decide_eq_true gw,decide_eq_true g1,decide_eq_true g3,decide_eq_true g4,decide_eq_true g5];first|rfl|simp
                   have z1:decide (q2≤M)=true:=decide_eq_true g1
                   have z3:((q3:Int)==(W:Int))=true:=beq_iff_eq.2 (by omega)
                   have z4:((q4:Int)==(M:Int))=true:=beq_iff_eq.2 (by omega)
                   have z5:((q5:Int)==0)=true:=beq_iff_eq.2 (by omega)
                   go_wp2_with fail
                   go_meet
                   exact ⟨by rw [Me.out],rfl⟩
                | false =>
                 by_cases g6:0<q2
                 · as_aux_lemma =>
                   have Me:Hid (sb=true):=by show _=_;rw [RN.out,decide_eq_true g0,decide_eq_true gw,decide_eq_true g1,decide_eq_true g3,decide_eq_true g4,decide_eq_true g5,decide_eq_true g6];first|rfl|simp
                   have z1:decide (q2≤M)=true:=decide_eq_true g1
                   have z3:((q3:Int)==(W:Int))=true:=beq_iff_eq.2 (by omega)
                   have z4:((q4:Int)==(M:Int))=true:=beq_iff_eq.2 (by omega)
                   have z5:((q5:Int)==0)=true:=beq_iff_eq.2 (by omega)
                   have z6:decide ((0:Int)<(q2:Int))=true:=decide_eq_true (by omega)
                   go_wp2_with fail
                   go_meet
                   exact ⟨by rw [Me.out],rfl⟩
                 · as_aux_lemma =>
                   have Me:Hid (sb=false):=by show _=_;rw [RN.out,decide_eq_true g0,decide_eq_true gw,decide_eq_true g1,decide_eq_true g3,decide_eq_true g4,decide_eq_true g5,decide_eq_false g6];first|rfl|simp
                   have z1:decide (q2≤M)=true:=decide_eq_true g1
                   have z3:((q3:Int)==(W:Int))=true:=beq_iff_eq.2 (by omega)
                   have z4:((q4:Int)==(M:Int))=true:=beq_iff_eq.2 (by omega)
                   have z5:((q5:Int)==0)=true:=beq_iff_eq.2 (by omega)
                   have z6:decide ((0:Int)<(q2:Int))=false:=decide_eq_false (by omega)
                   go_wp2_with fail
                   go_meet
                   exact ⟨by rw [Me.out],rfl⟩
              · as_aux_lemma =>
                have Me:Hid (sb=false):=by show _=_;rw [RN.out,decide_eq_true g0,decide_eq_true gw,decide_eq_true g1,decide_eq_true g3,decide_eq_true g4,decide_eq_false g5];first|rfl|simp
                have z1:decide (q2≤M)=true:=decide_eq_true g1
                have z3:((q3:Int)==(W:Int))=true:=beq_iff_eq.2 (by omega)
                have z4:((q4:Int)==(M:Int))=true:=beq_iff_eq.2 (by omega)
                have z5:((q5:Int)==0)=false:=beq_false_of_ne (by omega)
                go_wp2_with fail
                go_meet
                exact ⟨by rw [Me.out],rfl⟩
            · as_aux_lemma =>
              have Me:Hid (sb=false):=by show _=_;rw [RN.out,decide_eq_true g0,decide_eq_true gw,decide_eq_true g1,decide_eq_true g3,decide_eq_false g4];first|rfl|simp
              have z1:decide (q2≤M)=true:=decide_eq_true g1
              have z3:((q3:Int)==(W:Int))=true:=beq_iff_eq.2 (by omega)
              have z4:((q4:Int)==(M:Int))=false:=beq_false_of_ne (by omega)
              go_wp2_with fail
              go_meet
              exact ⟨by rw [Me.out],rfl⟩
          · as_aux_lemma =>
            have Me:Hid (sb=false):=by show _=_;rw [RN.out,decide_eq_true g0,decide_eq_true gw,decide_eq_true g1,decide_eq_false g3];first|rfl|simp
            have z1:decide (q2≤M)=true:=decide_eq_true g1
            have z3:((q3:Int)==(W:Int))=false:=beq_false_of_ne (by omega)
            go_wp2_with fail
            go_meet
            exact ⟨by rw [Me.out],rfl⟩
        · as_aux_lemma =>
          have Me:Hid (sb=false):=by show _=_;rw [RN.out,decide_eq_true g0,decide_eq_true gw,decide_eq_false g1];first|rfl|simp
          have z1:decide (q2≤M)=false:=decide_eq_false g1
          go_wp2_with fail
          go_meet
          exact ⟨by rw [Me.out],rfl⟩
       case rest =>
       obtain ⟨rfl,hwc⟩:=hcut
       have hwc:=hwc.symm
       subst hwc
       have nU:=bZ.below DT.out hlt
       have Qm:=HR4.out.below DT.out Yb
       obtain ⟨z0,z1,z2,z3⟩:=(Qm.put q1 lf (.slice none 0 0) (.slice none 0 0)).cells
       have hne:w.heap.size≠w3.heap.size:=by have:=HR3.out.lt;omega
       have pz:w.heap.size≠b3:=by omega
       obtain ⟨f0,f1,f2,f3⟩:=Qm.free
       obtain ⟨r0,r1,r2,r3⟩:=Qm.cells
       go_upto_region 9 with fail
       refine AJ (T:=fun _=>false) (S:=fun w'=>AP w' w3.heap.size q1 lf (.slice none 0 0) (.slice none 0 0)∧w'.cell? ⟨b3,o3+2,none⟩=some (.int .i64 q2)) (by kernel_rfl) (⟨nU,k2⟩) (fun hHeld=>?_)
       refine qf 0 87 rfl rfl hHeld (by intro w hSw;obtain ⟨x0,x1,x2,x3⟩:=hSw.1.cells;go_simp;(try with_reducible rfl)) ?_
       refine qs 1 88 hHeld ?_
       refine qs 2 89 hHeld ?_
       refine qf 3 90 rfl rfl hHeld (by intro w hSw;have k2:=hSw.2;go_simp;(try with_reducible rfl)) ?_
       refine qs 4 91 hHeld ?_
       refine qo 5 fun K hK=>?_
       go_simp
       have BI:=(show AP _ w3.heap.size q1 lf (.slice none 0 0) (.slice none 0 0)∧World.cell? _ ⟨b3,o3+2,none⟩=some (.int .i64 q2) from ⟨AP.UR hHeld.1 hne (.int .i64 q1) (.bool lf) (.slice none 0 0) (.slice none 0 0),(CZ pz (.int .i64 q1) (.bool lf) (.slice none 0 0) (.slice none 0 0)).trans hHeld.2⟩)
       clear hHeld
       have hHeld:=BI
       clear BI
       refine hK.out _ _ (fun _=>hHeld) (fun _=>?_)
       clear hK K
       (try simp only [Act.put,qS])
       refine qs 6 3 hHeld ?_
       refine qs 7 4 hHeld ?_
       refine qd ?_
       go_wp2_with fail
       refine bodyPost_ret (v:=.tuple #[.agg #[.int .i64 q1,.bool lf,.slice none 0 0,.slice none 0 0],.int .i64 q2,.bool sb]) (by simp [results,Tryz.results155,go_sem,z0,z1,z2,z3]) rfl ⟨jH.out _ ⟨q1,lf,q2,sb,rfl,rfl,fun h=>⟨rfl,(LX.out h).2.1,rfl⟩⟩,?_⟩
       have h6:=C8 (Ya.out.trans (DT.out.mono Ya.out.size)) (Nat.le_refl _) (.int .i64 q1) (.bool lf) (.slice none 0 0) (.slice none 0 0)
       exact h6.drew
   · as_aux_lemma =>
     have Me:Hid (sb=false):=by show _=_;rw [RN.out,decide_eq_false g0];simp
     have hz:decide ((1:Int)<(q0:Int))=true:=decide_eq_true (by omega)
     obtain ⟨z0,z1,z2,z3⟩:=(HR4.out.put 0 false (.slice none 0 0) (.slice none 0 0)).cells
     have BX:=C8 Ya.out (Nat.le_refl _) (.int .i64 0) (.bool false) (.slice none 0 0) (.slice none 0 0)
     have DT:=qh BX
     clear BX hwc
     go_wp2_with fail
     refine bodyPost_ret (v:=.tuple #[.agg #[.int .i64 0,.bool false,.slice none 0 0,.slice none 0 0],.int .i64 0,.bool false]) (by simp [results,Tryz.results155,go_sem,z0,z1,z2,z3]) rfl ⟨jH.out _ ⟨0,false,0,false,rfl,Me.out.symm,fun h=>by cases h⟩,DT.out⟩
 · have hz:((l.length:Int) != 244)=true:=by rw [bne_iff_ne];omega
   have HS:=qh (RL hlen)
   clear hr h0 hlen
   go_enter Tryz.func155,Tryz.ntmps155
   go_wp2
   exact bodyPost_ret (v:=.tuple #[.agg #[.int .i64 0,.bool false,.slice none 0 0,.slice none 0 0],.int .i64 0,.bool false]) (by simp [results,Tryz.results155,go_sem]) rfl ⟨⟨0,false,0,false,rfl,HS.out.symm,fun h=>by cases h⟩,(Below.refl _ _).alloc (Nat.le_refl _) _⟩
end
section
open Go.RowKit
theorem AP.h {w:World} {g:Nat} {t:Int} {lf:Bool} {kv vv:Value} (h:AP w g t lf kv vv):w.heap[g]? = some (.cells #[.int .i64 t,.bool lf,kv,vv] 125 (0,0)):=h
theorem WC {w:World} {g:Nat} {t:Int} {lf:Bool} {kv vv:Value} (h:AP w g t lf kv vv) (u:Value):AP (w.setCell ⟨g,2,none⟩ u) g t lf u vv:=by
 unfold AP at *
 simp [World.setCell,Array.getElem?_modify,h]
theorem WE {w:World} {g:Nat} {t:Int} {lf:Bool} {kv vv:Value} (h:AP w g t lf kv vv) (u:Value):AP (w.setCell ⟨g,3,none⟩ u) g t lf kv u:=by
 unfold AP at *
 simp [World.setCell,Array.getElem?_modify,h]
theorem AP.jJ {w:World} {g b:Nat} {t:Int} {lf:Bool} {kv vv:Value} (h:AP w g t lf kv vv) (hb:b≠g) (o:Nat) (u:Value):AP (w.setCell ⟨b,o,none⟩ u) g t lf kv vv:=(Below.heap_setCell w ⟨b,o,none⟩ u g (Ne.symm hb)).trans h
def Bi (w:World) (base g:Nat) (t:Int) (lf:Bool) (ks:List Int) (vs:List (List UInt8)) (Ak Av:Option Addr) (n ck m cv:Nat):Prop :=
 base≤g∧AP w g t lf (.slice Ak n ck) (.slice Av m cv)∧w.ownsRow base 3 1 (.slice Ak n ck) n (AA encI ks)∧w.ownsRow base 9 1 (.slice Av m cv) m (AA encS vs)
section
variable {w w' w2:World} {base g:Nat} {t:Int} {lf:Bool} {ks:List Int} {vs:List (List UInt8)} {Ak Av:Option Addr} {n ck m cv:Nat}
theorem Bi.p8 (h:Bi w base g t lf ks vs Ak Av n ck m cv):ks.length=n:=by
 have:=h.2.2.1.1
 rw [CO (size:=1) Bu] at this
 omega
theorem Bi.drewN (h:Bi w base g t lf ks vs Ak Av n ck m cv) (j:Nat):Bi (w.drewN j) base g t lf ks vs Ak Av n ck m cv:=h
theorem Bi.key (h:Bi w base g t lf ks vs Ak Av n ck m cv) {x:Int} {A:Option Addr} {c:Nat} (hown:w'.ownsRow base 3 1 (.slice A (n+1) c) (n+1) (AA encI (ks++[x]))) (hg:w.grownBy w' (Value.slice Ak n ck).ownBlock) :
 Bi (w'.setCell ⟨g,2,none⟩ (.slice A (n+1) c)) base g t lf (ks++[x]) vs A Av (n+1) c m cv∧AP w' g t lf (.slice Ak n ck) (.slice Av m cv):=by
 obtain ⟨h0,h1,h2,h3⟩:=h
 have h1':AP w' g t lf (.slice Ak n ck) (.slice Av m cv):=(hg.block g h1.lt (BC h2 h1.h (by decide))).trans h1
 have h3':=CY h3 h2 (by decide) hg
 refine ⟨⟨h0,WC h1' _,Ac (a:=⟨g,2,none⟩) hown (BL (g:=g) hown h1'.h (by decide)) _,Ac (a:=⟨g,2,none⟩) h3' (BL (g:=g) h3' h1'.h (by decide)) _⟩,h1'⟩
theorem Bi.val (h:Bi w base g t lf ks vs Ak Av n ck m cv) {x:List UInt8} {A:Option Addr} {c:Nat} (hown:w'.ownsRow base 9 1 (.slice A (m+1) c) (m+1) (AA encS (vs++[x]))) (hg:w.grownBy w' (Value.slice Av m cv).ownBlock) :
 Bi (w'.setCell ⟨g,3,none⟩ (.slice A (m+1) c)) base g t lf ks (vs++[x]) Ak A n ck (m+1) c∧AP w' g t lf (.slice Ak n ck) (.slice Av m cv):=by
 obtain ⟨h0,h1,h2,h3⟩:=h
 have h1':AP w' g t lf (.slice Ak n ck) (.slice Av m cv):=(hg.block g h1.lt (BC h3 h1.h (by decide))).trans h1
 have h2':=CY h2 h3 (by decide) hg
 refine ⟨⟨h0,WE h1' _,Ac (a:=⟨g,3,none⟩) h2' (BL (g:=g) h2' h1'.h (by decide)) _,Ac (a:=⟨g,3,none⟩) hown (BL (g:=g) hown h1'.h (by decide)) _⟩,h1'⟩
theorem Bi.start (w:World) (base:Nat) (hb:base≤w.heap.size) (t:Int) (lf:Bool):Bi (w.alloc (.cells #[.int .i64 t,.bool lf,.slice none 0 0,.slice none 0 0] 125)) base w.heap.size t lf [] [] none none 0 0 0 0 :=
 ⟨hb,heap_alloc_new w _,World.ownsRow_nil _ _ _ _,World.ownsRow_nil _ _ _ _⟩
theorem Bi.last (h:Bi w base g t lf ks vs Ak Av n ck m cv) (hn:0<n):∃ b,Ak=some ⟨b,0,none⟩∧b<w.heap.size∧w.cell? ⟨b,0+(n-1),none⟩=some (.int .i64 (nth 0 ks (n-1))):=by
 obtain ⟨b,cap,e,hb1,hb2,_⟩:=Eg h.2.2.1 hn
 injection e with e1 e2 e3
 subst e1 e3
 refine ⟨b,rfl,hb2,?_⟩
 have hl:=h.p8
 have hr:=h.2.2.1
 rw [Nat.zero_add,hr.cellAt (n-1) (by omega),Bq,List.getElem?_map,List.getElem?_eq_getElem (by omega),AZ 0 ks (n-1) (by omega)]
 rfl
end
def CW (w:World) (S:Nat→Prop) (v:Value) (x:Nd):Prop:=∃ kv vv,v=.agg #[.int .i64 x.tree,.bool x.leaf,kv,vv]∧BV w S kv x.keys∧Jw w S vv x.vals
theorem CW.keep {w w':World} {S S':Nat→Prop} {v:Value} {x:Nd} (h:CW w S v x) (hs:∀ b,S b→S' b) (hk:CU S w w'):CW w' S' v x:=by
 obtain ⟨kv,vv,e,h1,h2⟩:=h
 exact ⟨kv,vv,e,h1.keep (AB _) hs hk,h2.keep (AB _) hs hk⟩
theorem Bi.is {w:World} {base g:Nat} {t:Int} {lf:Bool} {ks:List Int} {vs:List (List UInt8)} {Ak Av:Option Addr} {n ck m cv:Nat} (h:Bi w base g t lf ks vs Ak Av n ck m cv):CW w (Fu base w.heap.size) (.agg #[.int .i64 t,.bool lf,.slice Ak n ck,.slice Av m cv]) ⟨t,lf,ks,vs⟩ :=
 ⟨_,_,rfl,Bp.own (enc:=encI) (d:=(0:Int)) Bu h.2.2.1 (by omega),Bp.own (enc:=encS) (d:=([]:List UInt8)) O9 h.2.2.2 (by omega)⟩
def Pi:Nd:=⟨0,false,[],[]⟩
theorem CW.zero {w:World} {S:Nat→Prop}:CW w S (.agg #[.int .i64 0,.bool false,.slice none 0 0,.slice none 0 0]) Pi:=⟨_,_,rfl,Bp.DW,Bp.DW⟩
end
end Go.Proofs.YthblbddmcdnllaaGreatDoor
