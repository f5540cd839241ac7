/- A part of the proof: WBlkS2. -/
import Derived.Test.YthblbddmcdnllaaGreatDoorX39
import Derived.Test.YthblbddmcdnllaaGreatDoorX20
import Derived.Test.YthblbddmcdnllaaGreatDoorY1
set_option maxHeartbeats 6400000
set_option linter.unusedVariables false
set_option linter.unusedSimpArgs false
namespace Go.Proofs.YthblbddmcdnllaaGreatDoor
section
open Go.RowKit Go.Shelf
attribute [local go_sem] Oper.semAt_some
def DJ (bs:List UInt8):Int:=if EJ bs 1 0≠0 then EJ bs 1 0 else Dt (bs.length / 256) (AO bs 0)
def Jh (bs:List UInt8):Kk:=if DJ bs=0 then Cw (AO bs 0) else LC
def I9 (w:World) (bs:List UInt8) (e:Ending) (w':World):Prop:=∃ ev,e=.returned (.tuple #[Iu (Jh bs),ev])∧Bf w' (FB w' w.heap.size) ev ⟨[0],DJ bs⟩
theorem I9.bad {w:World} {bs:List UInt8} (w1:World) (E:Int) (hE:E≠0) (h:DJ bs=E) (hw:w.heap.size<w1.heap.size) (wE w9:World) (Eo:wE=w1.drew.alloc (.cells #[.int .i64 0,.iface 44 (.int .i64 E)] 186)) (h9:Touch (fun x=>x=w.heap.size) wE w9) :
 I9 w bs (.returned (.tuple #[.agg #[.int .i64 0,.int .i64 0,.int .i64 0,.int .i64 0,.int .i64 0,.int .i64 0,.int .i64 0,.int .i64 0,.int .i64 0,.int .i64 0,.int .i64 0],.iface 184 (.pointer (some ⟨w1.heap.size,0,none⟩))])) w9:=by
 refine ⟨.iface 184 (.pointer (some ⟨w1.heap.size,0,none⟩)),?_,?_⟩
 · unfold Jh
   rw [h,if_neg hE]
   rfl
 · rw [h]
   have hi:=Nu w1.drew 0 E hE (fun b=>b=w1.heap.size) rfl
   rw [← Eo] at hi
   have hs:wE.heap.size=w1.heap.size+1:=by rw [Eo,World.size_alloc];rfl
   have Ey:wE.heap[w1.heap.size]? = some (.cells #[.int .i64 0,.iface 44 (.int .i64 E)] 186 (0,0)):=by rw [Eo];exact heap_alloc_new w1.drew _
   refine hi.keep (fun b hb=>?_) (Ap h9 (fun b hb=>⟨by omega,fun e=>by omega⟩))
   subst hb
   exact ⟨by omega,_,(h9.block (by omega) (fun e=>by omega)).trans Ey⟩
set_option maxRecDepth 100000 in
theorem Ob (w:World) (S:Nat→Prop) (a gm:Nat) (bs:List UInt8) (hS:∀ b,S b→b<w.heap.size) (h:Am w S a bs) (hl:bs.length≤140737488355328) (hgm:gm<w.heap.size) (hm:w.cell? ⟨gm,0,none⟩=some (.pointer (some ⟨a,0,none⟩))) :
 Calls Tryz.prog 44 #[.pointer (some ⟨a,0,none⟩),.int .i64 0,.int .i64 1,.func (.func 45) #[] #[.pointer (some ⟨gm,0,none⟩)]] w fun e w'=>I9 w bs e w'∧Below w.heap.size w w':=by
 obtain ⟨hr2,hz2,hB2,hsz2⟩:=AL.two w EB EB 59 59
 generalize hw2:(w.alloc (.cells EB 59)).alloc (.cells EB 59)=w2 at *
 have HW2:=qh hw2
 have h2:=h.below hB2 hS
 have hS2:∀ b,S b→b<w2.heap.size:=fun b hb=>Nat.lt_of_lt_of_le (hS b hb) hB2.size
 have ha:a<w.heap.size:=hS a h.1
 have UX:Hid (∀ w' vb,Below w.heap.size w w'→AU w' (fun b=>b<w'.heap.size) vb (AO bs 0)→(AO bs 0).length=244→Calls Tryz.prog 45 #[vb,.pointer (some ⟨gm,0,none⟩)] w' fun e w''=>e=.returned (.tuple #[Iu (Ch (AO bs 0)).1,.int .i64 (Dt (bs.length / 256) (AO bs 0))])∧Below w'.heap.size w' w''):=fun w' vb hB hb hbl=>by
  obtain ⟨_,A,c,hc,_,_⟩:=h
  exact SV w' (fun b=>b<w'.heap.size) vb (AO bs 0) gm a bs.length c A (fun _ h=>h) hb (by omega) (Nat.lt_of_lt_of_le hgm hB.size) (AY hB hgm hm) (Nat.lt_of_lt_of_le ha hB.size) (AY hB ha hc) hl
 have dA:=qh (fun w' vb l (hb:AU w' (fun b=>b<w'.heap.size) vb l) (hl:l.length≤140737488355328)=>GY w' (fun b=>b<w'.heap.size) vb l 1 0 (fun _ h=>h) hb hl)
 have HZ2:=qh hz2
 have HR2:=qh hr2
 have OG:=qh hB2
 clear hw2 hz2 hr2 hB2 hsz2 hm h ha
 go_enter Tryz.func44,Tryz.ntmps44
 go_upto_region 2 with fail
 rw [HW2.out]
 obtain ⟨gz,Wj⟩:∃ gz,w.heap.size+1=gz:=⟨_,rfl⟩
 rw [Wj] at HZ2 ⊢
 have hgz:w.heap.size≠gz:=by omega
 clear Wj HW2
 cases hB0:Iw bs 0 with
 | false =>
  have EP:Hid (DJ bs=3):=by show _=_;unfold DJ EJ;rw [if_pos hB0,if_pos (by decide)]
  have NI:=qh (PP w2 S a 0 bs h2 hl (Lf hB0))
  have hE:(3:Int)≠0:=by decide
  clear hB0 h2
  go_upto_region 4 with (go_at_call 86;(with_reducible refine NI.out.mono ?_);rintro e w3 ⟨rfl,hB3⟩)
  have hrw3:=HR2.out.below hB3 HR2.out.lt
  have Ew:=HZ2.out.below hB3 HZ2.out.lt
  have hBw3:=OG.out.trans (hB3.mono OG.out.size)
  have Z8:=hrw3.lt
  clear hB3
  refine AJ (T:=fun _=>false) (S:=fun w'=>AL w' gz EB 59) (by kernel_rfl) (Ew) (fun hHeld=>?_)
  refine qf 0 23 rfl rfl hHeld (by intro w hSw;have x0:=hSw.at 0 _ rfl;have x1:=hSw.at 1 _ rfl;have x2:=hSw.at 2 _ rfl;have x3:=hSw.at 3 _ rfl;have x4:=hSw.at 4 _ rfl;have x5:=hSw.at 5 _ rfl;have x6:=hSw.at 6 _ rfl;have x7:=hSw.at 7 _ rfl;have x8:=hSw.at 8 _ rfl;have x9:=hSw.at 9 _ rfl;have OH:=hSw.at 10 _ rfl;go_simp;(try with_reducible rfl)) ?_
  refine qs 1 24 hHeld ?_
  refine qs 2 25 hHeld ?_
  refine qs 3 26 hHeld ?_
  refine qo 4 fun K hK=>?_
  go_simp
  refine (F4 w3.drew 0 3 hE).mono ?_
  rintro e wE ⟨rfl,Eo⟩
  have IP:Below w3.heap.size w3 wE:=by (rw [Eo];exact ((Below.refl _ _).drew.alloc (Nat.le_refl _) _))
  have Bt:=hrw3.below IP hrw3.lt
  have y0:=Bt.at 0 _ rfl
  have y1:=Bt.at 1 _ rfl
  have y2:=Bt.at 2 _ rfl
  have y3:=Bt.at 3 _ rfl
  have y4:=Bt.at 4 _ rfl
  have y5:=Bt.at 5 _ rfl
  have y6:=Bt.at 6 _ rfl
  have y7:=Bt.at 7 _ rfl
  have y8:=Bt.at 8 _ rfl
  have y9:=Bt.at 9 _ rfl
  have YB:=Bt.at 10 _ rfl
  have z0:=Bt.free 0
  have z1:=Bt.free 1
  have z2:=Bt.free 2
  have z3:=Bt.free 3
  have z4:=Bt.free 4
  have z5:=Bt.free 5
  have z6:=Bt.free 6
  have z7:=Bt.free 7
  have z8:=Bt.free 8
  have z9:=Bt.free 9
  have YC:=Bt.free 10
  have Rf:=qh Eo
  clear Eo
  have hHeld:=(show AL wE gz EB 59 from Ew.below IP Ew.lt)
  refine hK.out _ _ (fun _=>hHeld) (fun _=>?_)
  clear hK K
  (try simp only [Act.put,qS])
  refine qo 5 fun K hK=>?_
  go_simp
  have BI:=(show AL _ gz EB 59 from ((Er wE w.heap.size (.int .i64 0) (.int .i64 0) (.int .i64 0) (.int .i64 0) (.int .i64 0) (.int .i64 0) (.int .i64 0) (.int .i64 0) (.int .i64 0) (.int .i64 0) (.int .i64 0)).block hHeld.lt (fun e=>hgz e.symm)).trans hHeld)
  clear hHeld
  have hHeld:=BI
  clear BI
  refine hK.out _ _ (fun _=>hHeld) (fun _=>?_)
  clear hK K
  (try simp only [Act.put,qS])
  refine qs 6 9 hHeld ?_
  refine qd ?_
  go_wp2_with fail
  obtain ⟨w9,ew,hbx,htx⟩:=Ea Bt
  rw [ew]
  have r0:=hbx.at 0 _ rfl
  have r1:=hbx.at 1 _ rfl
  have r2:=hbx.at 2 _ rfl
  have r3:=hbx.at 3 _ rfl
  have r4:=hbx.at 4 _ rfl
  have r5:=hbx.at 5 _ rfl
  have r6:=hbx.at 6 _ rfl
  have r7:=hbx.at 7 _ rfl
  have r8:=hbx.at 8 _ rfl
  have r9:=hbx.at 9 _ rfl
  have Kt:=hbx.at 10 _ rfl
  exact bodyPost_ret (v:=.tuple #[.agg #[.int .i64 0,.int .i64 0,.int .i64 0,.int .i64 0,.int .i64 0,.int .i64 0,.int .i64 0,.int .i64 0,.int .i64 0,.int .i64 0,.int .i64 0],.iface 184 (.pointer (some ⟨w3.heap.size,0,none⟩))]) (by simp [results,Tryz.results44,go_sem,r0,r1,r2,r3,r4,r5,r6,r7,r8,r9,Kt]) rfl ⟨I9.bad w3 3 hE EP.out (by omega) wE w9 Rf.out htx,((hBw3.trans (IP.mono hBw3.size)).trans ((htx.weak (R':=fun y=>w.heap.size≤y) (fun y e=>by omega)).below (fun x h=>h) (by have:=IP.size;omega)))⟩
 | true =>
  obtain ⟨k,hk0,hk⟩:=NS hB0
  obtain rfl:k=0:=by omega
  have rD:Hid (EJ bs 1 0=DD (Ct bs 0) 1 0):=by show _=_;unfold EJ;rw [if_neg (by rw [hB0];simp)];rfl
  have hbody:AO bs 0=FT (Ct bs 0):=rfl
  have hlb:(Ct bs 0).length=256:=Hr hk
  have iH:(AO bs 0).length=244:=by rw [hbody];exact Dz hlb
  have X8:Hid (DJ bs=if DD (Ct bs 0) 1 0≠0 then DD (Ct bs 0) 1 0 else Dt (bs.length / 256) (AO bs 0)):=by show _=_;unfold DJ;rw [rD.out]
  have hrd:=Kl w2 S a 0 bs hS2 h2 hl hk
  rw [show (((0:Nat):Int))=(0:Int) from rfl] at hrd
  have NI:=qh hrd
  have X5:=qh hbody
  have Po:=qh hlb
  have iI:=qh iH
  clear hB0 h2 hbody hlb iH hrd hk0
  go_upto_region 5 with (go_at_call 86;(with_reducible refine NI.out.mono ?_);rintro e w3 ⟨A3,c3,rfl,hown3,hB3⟩;have PZ:=qh hown3;clear hown3)
  have hrw3:=HR2.out.below hB3 HR2.out.lt
  have Ew:=HZ2.out.below hB3 HZ2.out.lt
  have hBw3:=OG.out.trans (hB3.mono OG.out.size)
  have hb3:AU w3 (fun b=>b<w3.heap.size) (.slice A3 256 c3) (Ct bs 0):=by
   have:=(Bp.own (enc:=AX) (d:=(0:UInt8)) DY PZ.out (by omega)).sub (S':=fun b=>b<w3.heap.size) (AB _) (fun b hb=>hb.2)
   exact this
  have hop:=dA.out w3 _ _ hb3 (by rw [Po.out];omega)
  have dB:Hid (∀ v w',CG w3 (DD (Ct bs 0) 1 0) (Ct bs 0) v w'→DD (Ct bs 0) 1 0=0→AU w' (fun b=>b<w'.heap.size) v (AO bs 0)):=fun v w' h h0=>by
   unfold CG at h
   rw [if_pos h0] at h
   rw [X5.out]
   exact h.sub (AB _) (fun b hb=>hb.2)
  generalize DD (Ct bs 0) 1 0=E at *
  have Wl:=qh hop
  clear hop hb3 hB3 PZ
  by_cases hE:E≠0
  · have EP:Hid (DJ bs=E):=by show _=_;rw [X8.out,if_pos hE]
    have Ke:Hid (∀ v w',CG w3 E (Ct bs 0) v w'→v=.slice none 0 0):=fun v w' h=>by unfold CG at h;rwa [if_neg hE] at h
    have hEb:((E:Int) != 0)=true:=by rw [bne_iff_ne];exact hE
    go_upto_region 7 with (go_at_call 87;(with_reducible refine Wl.out.mono ?_);rintro e w4 ⟨⟨v4,rfl,hv4⟩,hB4⟩;obtain rfl:=Ke.out _ _ hv4;clear hv4)
    have Rh:=hrw3.below hB4 hrw3.lt
    have Ri:=Ew.below hB4 Ew.lt
    have Uj:=hBw3.trans (hB4.mono hBw3.size)
    have Z9:=Rh.lt
    clear hB4 hrw3 Ew hBw3
    refine AJ (T:=fun _=>false) (S:=fun w'=>AL w' gz EB 59) (by kernel_rfl) (Ri) (fun hHeld=>?_)
    refine qf 0 37 rfl rfl hHeld (by intro w hSw;have x0:=hSw.at 0 _ rfl;have x1:=hSw.at 1 _ rfl;have x2:=hSw.at 2 _ rfl;have x3:=hSw.at 3 _ rfl;have x4:=hSw.at 4 _ rfl;have x5:=hSw.at 5 _ rfl;have x6:=hSw.at 6 _ rfl;have x7:=hSw.at 7 _ rfl;have x8:=hSw.at 8 _ rfl;have x9:=hSw.at 9 _ rfl;have OH:=hSw.at 10 _ rfl;go_simp;(try with_reducible rfl)) ?_
    refine qs 1 38 hHeld ?_
    refine qs 2 39 hHeld ?_
    refine qs 3 40 hHeld ?_
    refine qo 4 fun K hK=>?_
    go_simp
    refine (F4 w4.drew 0 E hE).mono ?_
    rintro e wE ⟨rfl,Eo⟩
    have IP:Below w4.heap.size w4 wE:=by (rw [Eo];exact ((Below.refl _ _).drew.alloc (Nat.le_refl _) _))
    have Bt:=Rh.below IP Rh.lt
    have y0:=Bt.at 0 _ rfl
    have y1:=Bt.at 1 _ rfl
    have y2:=Bt.at 2 _ rfl
    have y3:=Bt.at 3 _ rfl
    have y4:=Bt.at 4 _ rfl
    have y5:=Bt.at 5 _ rfl
    have y6:=Bt.at 6 _ rfl
    have y7:=Bt.at 7 _ rfl
    have y8:=Bt.at 8 _ rfl
    have y9:=Bt.at 9 _ rfl
    have YB:=Bt.at 10 _ rfl
    have z0:=Bt.free 0
    have z1:=Bt.free 1
    have z2:=Bt.free 2
    have z3:=Bt.free 3
    have z4:=Bt.free 4
    have z5:=Bt.free 5
    have z6:=Bt.free 6
    have z7:=Bt.free 7
    have z8:=Bt.free 8
    have z9:=Bt.free 9
    have YC:=Bt.free 10
    have Rf:=qh Eo
    clear Eo
    have hHeld:=(show AL wE gz EB 59 from Ri.below IP Ri.lt)
    refine hK.out _ _ (fun _=>hHeld) (fun _=>?_)
    clear hK K
    (try simp only [Act.put,qS])
    refine qo 5 fun K hK=>?_
    go_simp
    have BI:=(show AL _ gz EB 59 from ((Er wE w.heap.size (.int .i64 0) (.int .i64 0) (.int .i64 0) (.int .i64 0) (.int .i64 0) (.int .i64 0) (.int .i64 0) (.int .i64 0) (.int .i64 0) (.int .i64 0) (.int .i64 0)).block hHeld.lt (fun e=>hgz e.symm)).trans hHeld)
    clear hHeld
    have hHeld:=BI
    clear BI
    refine hK.out _ _ (fun _=>hHeld) (fun _=>?_)
    clear hK K
    (try simp only [Act.put,qS])
    refine qs 6 9 hHeld ?_
    refine qd ?_
    go_wp2_with fail
    obtain ⟨w9,ew,hbx,htx⟩:=Ea Bt
    rw [ew]
    have r0:=hbx.at 0 _ rfl
    have r1:=hbx.at 1 _ rfl
    have r2:=hbx.at 2 _ rfl
    have r3:=hbx.at 3 _ rfl
    have r4:=hbx.at 4 _ rfl
    have r5:=hbx.at 5 _ rfl
    have r6:=hbx.at 6 _ rfl
    have r7:=hbx.at 7 _ rfl
    have r8:=hbx.at 8 _ rfl
    have r9:=hbx.at 9 _ rfl
    have Kt:=hbx.at 10 _ rfl
    exact bodyPost_ret (v:=.tuple #[.agg #[.int .i64 0,.int .i64 0,.int .i64 0,.int .i64 0,.int .i64 0,.int .i64 0,.int .i64 0,.int .i64 0,.int .i64 0,.int .i64 0,.int .i64 0],.iface 184 (.pointer (some ⟨w4.heap.size,0,none⟩))]) (by simp [results,Tryz.results44,go_sem,r0,r1,r2,r3,r4,r5,r6,r7,r8,r9,Kt]) rfl ⟨I9.bad w4 E hE EP.out (by omega) wE w9 Rf.out htx,((Uj.trans (IP.mono Uj.size)).trans ((htx.weak (R':=fun y=>w.heap.size≤y) (fun y e=>by omega)).below (fun x h=>h) (by have:=IP.size;omega)))⟩
  · obtain rfl:E=0:=Classical.not_not.1 hE
    have Lg:Hid (DJ bs=Dt (bs.length / 256) (AO bs 0)):=by show _=_;rw [X8.out,if_neg (by simp)]
    have Qo:=qh (fun w4 v4 (hB4:Below w3.heap.size w3 w4) (hv:CG w3 0 (Ct bs 0) v4 w4)=>UX.out w4 v4 (hBw3.trans (hB4.mono hBw3.size)) (dB.out _ _ hv rfl) iI.out)
    have Ke:Hid (∀ v w',CG w3 0 (Ct bs 0) v w'→∃ A n c,v=.slice A n c):=fun v w' h=>by obtain ⟨A,c,e,_⟩:=dB.out _ _ h rfl;exact ⟨A,_,c,e⟩
    obtain ⟨F,hF⟩:∃ F,Dt (bs.length / 256) (AO bs 0)=F:=⟨_,rfl⟩
    obtain ⟨s,hs⟩:∃ s,(Ch (AO bs 0)).1=s:=⟨_,rfl⟩
    rw [hF] at Lg
    rw [hF,hs] at Qo
    have ja:Hid (F=0→s=Cw (AO bs 0)):=fun h0=>by
     rw [← hF] at h0
     unfold Dt at h0
     rcases I8 (AO bs 0) with ⟨h1,h2⟩|⟨h1,h2⟩
     · rw [← hs,h2]
     · rw [h1,if_pos (by decide)] at h0;cases h0
    clear UX hF hs dB X8
    go_upto_region 9 with (first|(go_at_call 87;(with_reducible refine Wl.out.mono ?_);rintro e w4 ⟨⟨v4,rfl,hv4⟩,hB4⟩;have MP:=qh (Qo.out w4 v4 hB4 hv4);obtain ⟨A4,n4,c4,rfl⟩:=Ke.out _ _ hv4;clear hv4)|(go_at_call 45;(with_reducible refine MP.out.mono ?_);rintro e w5 ⟨rfl,BX⟩))
    have Kb:=hBw3.trans ((hB4.trans (BX.mono hB4.size)).mono hBw3.size)
    have Rk:=(hrw3.below hB4 hrw3.lt).below BX (hrw3.below hB4 hrw3.lt).lt
    have Rl:=(Ew.below hB4 Ew.lt).below BX (Ew.below hB4 Ew.lt).lt
    have FP:Below w5.heap.size w5 (w5.alloc (.cells (E5 s) 59)):=(Below.refl _ _).alloc (Nat.le_refl _) _
    have Rm:=AL.new w5 (E5 s) 59
    generalize w5.alloc (.cells (E5 s) 59)=w6 at *
    have Dk:=Rk.below FP Rk.lt
    have Rn:=Rl.below FP Rl.lt
    have F5:=Kb.trans (FP.mono Kb.size)
    have aA:=Dk.lt
    clear hB4 BX FP hrw3 Ew hBw3 Rk Rl Kb
    by_cases hE:F≠0
    · have EP:Hid (DJ bs=F):=Lg
      have hFb:((F:Int) != 0)=true:=by rw [bne_iff_ne];exact hE
      clear Rm Lg ja
      go_upto_region 10 with fail
      refine AJ (T:=fun _=>false) (S:=fun w'=>AL w' gz EB 59) (by kernel_rfl) (Rn) (fun hHeld=>?_)
      refine qf 0 50 rfl rfl hHeld (by intro w hSw;have x0:=hSw.at 0 _ rfl;have x1:=hSw.at 1 _ rfl;have x2:=hSw.at 2 _ rfl;have x3:=hSw.at 3 _ rfl;have x4:=hSw.at 4 _ rfl;have x5:=hSw.at 5 _ rfl;have x6:=hSw.at 6 _ rfl;have x7:=hSw.at 7 _ rfl;have x8:=hSw.at 8 _ rfl;have x9:=hSw.at 9 _ rfl;have OH:=hSw.at 10 _ rfl;go_simp;(try with_reducible rfl)) ?_
      refine qs 1 51 hHeld ?_
      refine qs 2 52 hHeld ?_
      refine qs 3 53 hHeld ?_
      refine qo 4 fun K hK=>?_
      go_simp
      refine (F4 w6.drew 0 F hE).mono ?_
      rintro e wE ⟨rfl,Eo⟩
      have IP:Below w6.heap.size w6 wE:=by (rw [Eo];exact ((Below.refl _ _).drew.alloc (Nat.le_refl _) _))
      have Bt:=Dk.below IP Dk.lt
      have y0:=Bt.at 0 _ rfl
      have y1:=Bt.at 1 _ rfl
      have y2:=Bt.at 2 _ rfl
      have y3:=Bt.at 3 _ rfl
      have y4:=Bt.at 4 _ rfl
      have y5:=Bt.at 5 _ rfl
      have y6:=Bt.at 6 _ rfl
      have y7:=Bt.at 7 _ rfl
      have y8:=Bt.at 8 _ rfl
      have y9:=Bt.at 9 _ rfl
      have YB:=Bt.at 10 _ rfl
      have z0:=Bt.free 0
      have z1:=Bt.free 1
      have z2:=Bt.free 2
      have z3:=Bt.free 3
      have z4:=Bt.free 4
      have z5:=Bt.free 5
      have z6:=Bt.free 6
      have z7:=Bt.free 7
      have z8:=Bt.free 8
      have z9:=Bt.free 9
      have YC:=Bt.free 10
      have Rf:=qh Eo
      clear Eo
      have hHeld:=(show AL wE gz EB 59 from Rn.below IP Rn.lt)
      refine hK.out _ _ (fun _=>hHeld) (fun _=>?_)
      clear hK K
      (try simp only [Act.put,qS])
      refine qo 5 fun K hK=>?_
      go_simp
      have BI:=(show AL _ gz EB 59 from ((Er wE w.heap.size (.int .i64 0) (.int .i64 0) (.int .i64 0) (.int .i64 0) (.int .i64 0) (.int .i64 0) (.int .i64 0) (.int .i64 0) (.int .i64 0) (.int .i64 0) (.int .i64 0)).block hHeld.lt (fun e=>hgz e.symm)).trans hHeld)
      clear hHeld
      have hHeld:=BI
      clear BI
      refine hK.out _ _ (fun _=>hHeld) (fun _=>?_)
      clear hK K
      (try simp only [Act.put,qS])
      refine qs 6 9 hHeld ?_
      refine qd ?_
      go_wp2_with fail
      obtain ⟨w9,ew,hbx,htx⟩:=Ea Bt
      rw [ew]
      have r0:=hbx.at 0 _ rfl
      have r1:=hbx.at 1 _ rfl
      have r2:=hbx.at 2 _ rfl
      have r3:=hbx.at 3 _ rfl
      have r4:=hbx.at 4 _ rfl
      have r5:=hbx.at 5 _ rfl
      have r6:=hbx.at 6 _ rfl
      have r7:=hbx.at 7 _ rfl
      have r8:=hbx.at 8 _ rfl
      have r9:=hbx.at 9 _ rfl
      have Kt:=hbx.at 10 _ rfl
      exact bodyPost_ret (v:=.tuple #[.agg #[.int .i64 0,.int .i64 0,.int .i64 0,.int .i64 0,.int .i64 0,.int .i64 0,.int .i64 0,.int .i64 0,.int .i64 0,.int .i64 0,.int .i64 0],.iface 184 (.pointer (some ⟨w6.heap.size,0,none⟩))]) (by simp [results,Tryz.results44,go_sem,r0,r1,r2,r3,r4,r5,r6,r7,r8,r9,Kt]) rfl ⟨I9.bad w6 F hE EP.out (by omega) wE w9 Rf.out htx,((F5.trans (IP.mono F5.size)).trans ((htx.weak (R':=fun y=>w.heap.size≤y) (fun y e=>by omega)).below (fun x h=>h) (by have:=IP.size;omega)))⟩
    · obtain rfl:F=0:=Classical.not_not.1 hE
      have x0:=Rm.at 0 _ rfl
      have x1:=Rm.at 1 _ rfl
      have x2:=Rm.at 2 _ rfl
      have x3:=Rm.at 3 _ rfl
      have x4:=Rm.at 4 _ rfl
      have x5:=Rm.at 5 _ rfl
      have x6:=Rm.at 6 _ rfl
      have x7:=Rm.at 7 _ rfl
      have x8:=Rm.at 8 _ rfl
      have x9:=Rm.at 9 _ rfl
      have OH:=Rm.at 10 _ rfl
      have y0:=Dk.at 0 _ rfl
      have y1:=Dk.at 1 _ rfl
      have y2:=Dk.at 2 _ rfl
      have y3:=Dk.at 3 _ rfl
      have y4:=Dk.at 4 _ rfl
      have y5:=Dk.at 5 _ rfl
      have y6:=Dk.at 6 _ rfl
      have y7:=Dk.at 7 _ rfl
      have y8:=Dk.at 8 _ rfl
      have y9:=Dk.at 9 _ rfl
      have YB:=Dk.at 10 _ rfl
      have z0:=Dk.free 0
      have z1:=Dk.free 1
      have z2:=Dk.free 2
      have z3:=Dk.free 3
      have z4:=Dk.free 4
      have z5:=Dk.free 5
      have z6:=Dk.free 6
      have z7:=Dk.free 7
      have z8:=Dk.free 8
      have z9:=Dk.free 9
      have YC:=Dk.free 10
      obtain ⟨w9,ew,hbx,htx⟩:=E9 Dk s
      have ZT:=qh ew
      have dC:=qh F5
      have DL:=qh hbx
      have ZU:=qh htx
      clear F5 ew hbx htx
      go_wp2_with fail
      rw [ZT.out]
      have r0:=DL.out.at 0 _ rfl
      have r1:=DL.out.at 1 _ rfl
      have r2:=DL.out.at 2 _ rfl
      have r3:=DL.out.at 3 _ rfl
      have r4:=DL.out.at 4 _ rfl
      have r5:=DL.out.at 5 _ rfl
      have r6:=DL.out.at 6 _ rfl
      have r7:=DL.out.at 7 _ rfl
      have r8:=DL.out.at 8 _ rfl
      have r9:=DL.out.at 9 _ rfl
      have Kt:=DL.out.at 10 _ rfl
      refine bodyPost_ret (v:=.tuple #[Iu s,.nilIface]) (by simp [results,Tryz.results44,go_sem,r0,r1,r2,r3,r4,r5,r6,r7,r8,r9,Kt]) rfl ⟨⟨.nilIface,?_,?_⟩,dC.out.trans ((ZU.out.weak (R':=fun y=>w.heap.size≤y) (fun y e=>by omega)).below (fun x h=>h) (by omega))⟩
      · unfold Jh
        rw [if_pos Lg.out,ja.out (by first|trivial|rfl)]
      · rw [Lg.out]
        exact Bf.DW
set_option maxRecDepth 100000 in
theorem MF (w:World) (S:Nat→Prop) (a:Nat) (bs:List UInt8) (hS:∀ b,S b→b<w.heap.size) (h:Am w S a bs) (hl:bs.length≤140737488355328) :
 Calls Tryz.prog 19 #[.pointer (some ⟨a,0,none⟩)] w fun e w'=>I9 w bs e w'∧Below w.heap.size w w':=by
 obtain ⟨hm,hr,hB2,hsz⟩:=AL.two w #[.pointer (some ⟨a,0,none⟩)] EB 25 59
 go_enter Tryz.func19,Tryz.ntmps19
 go_upto_region 1 with fail
 generalize (w.alloc (.cells #[.pointer (some ⟨a,0,none⟩)] 25)).alloc (.cells EB 59)=w2 at *
 have m0:=hm.at 0 _ rfl
 have HR:=qh (Ob w2 S a w.heap.size bs (fun b hb=>Nat.lt_of_lt_of_le (hS b hb) hB2.size) (h.below hB2 hS) hl hm.lt m0)
 have HR2:=qh hr
 have HB2:=qh hB2
 obtain ⟨s,hs⟩:∃ s,Jh bs=s:=⟨_,rfl⟩
 have iR:=qh hs
 have HRX:Hid (Calls Tryz.prog 44 #[.pointer (some ⟨a,0,none⟩),.int .i64 0,.int .i64 1,.func (.func 45) #[] #[.pointer (some ⟨w.heap.size,0,none⟩)]] w2 fun e w'=>∃ ev,(e=.returned (.tuple #[Iu s,ev])∧Bf w' (FB w' w2.heap.size) ev ⟨[0],DJ bs⟩)∧Below w2.heap.size w2 w'):=HR.out.mono fun e w' ⟨⟨ev,h1,h2⟩,h3⟩=>⟨ev,⟨by rw [h1,hs],h2⟩,h3⟩
 clear hm hr hB2 h hs HR
 go_wp2_with (go_at_call 44;(with_reducible refine HRX.out.mono ?_);rintro e w3 ⟨ev,⟨rfl,hie⟩,hB3⟩;have hr3:=HR2.out.below hB3 HR2.out.lt;have HB3:=qh hB3;have HIE:=qh hie;have y0:=hr3.at 0 _ rfl;have y1:=hr3.at 1 _ rfl;have y2:=hr3.at 2 _ rfl;have y3:=hr3.at 3 _ rfl;have y4:=hr3.at 4 _ rfl;have y5:=hr3.at 5 _ rfl;have y6:=hr3.at 6 _ rfl;have y7:=hr3.at 7 _ rfl;have y8:=hr3.at 8 _ rfl;have y9:=hr3.at 9 _ rfl;have YB:=hr3.at 10 _ rfl;have z0:=hr3.free 0;have z1:=hr3.free 1;have z2:=hr3.free 2;have z3:=hr3.free 3;have z4:=hr3.free 4;have z5:=hr3.free 5;have z6:=hr3.free 6;have z7:=hr3.free 7;have z8:=hr3.free 8;have z9:=hr3.free 9;have YC:=hr3.free 10;clear hie hB3)
 obtain ⟨w9,ew,hbx,htx⟩:=E9 hr3 s
 rw [ew]
 have r0:=hbx.at 0 _ rfl
 have r1:=hbx.at 1 _ rfl
 have r2:=hbx.at 2 _ rfl
 have r3:=hbx.at 3 _ rfl
 have r4:=hbx.at 4 _ rfl
 have r5:=hbx.at 5 _ rfl
 have r6:=hbx.at 6 _ rfl
 have r7:=hbx.at 7 _ rfl
 have r8:=hbx.at 8 _ rfl
 have r9:=hbx.at 9 _ rfl
 have Kt:=hbx.at 10 _ rfl
 refine bodyPost_ret (v:=.tuple #[Iu s,ev]) (by simp [results,Tryz.results19,go_sem,r0,r1,r2,r3,r4,r5,r6,r7,r8,r9,Kt]) rfl ⟨⟨ev,by rw [iR.out],?_⟩,(HB2.out.trans (HB3.out.mono HB2.out.size)).trans ((htx.weak (R':=fun y=>w.heap.size≤y) (fun y e=>by omega)).below (fun x h=>h) (by have:=HB2.out.size;have:=HB3.out.size;omega))⟩
 refine HIE.out.keep (fun b hb=>⟨by have:=hb.1;omega,?_⟩) (Ap htx (fun b hb=>⟨hb.lt,fun e=>by have:=hb.1;omega⟩))
 obtain ⟨h1,cs,h2⟩:=hb
 exact ⟨cs,(htx.block (Array.getElem?_eq_some_iff.1 h2).1 (fun e=>by omega)).trans h2⟩
end
end Go.Proofs.YthblbddmcdnllaaGreatDoor
