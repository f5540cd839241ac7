/- A part of the proof: WBlk2, WBlk3. -/
import Derived.Test.YthblbddmcdnllaaGreatDoorX11
import Derived.Test.YthblbddmcdnllaaGreatDoorX18
import Derived.Test.YthblbddmcdnllaaGreatDoorX19
import Derived.Test.YthblbddmcdnllaaGreatDoorX6
import Derived.Test.YthblbddmcdnllaaGreatDoorX1
import Derived.Test.YthblbddmcdnllaaGreatDoorY1
set_option maxHeartbeats 6400000
set_option linter.unusedVariables false
set_option linter.unusedSimpArgs false
namespace Go.Proofs.YthblbddmcdnllaaGreatDoor
section
open Go.RowKit
attribute [local go_sem] Oper.semAt_some
def GZ (w:World) (bs:List UInt8) (no tree:Int) (e:Ending) (w':World):Prop:=∃ v ev,e=.returned (.tuple #[v,ev])∧CW w' (Fu w.heap.size w'.heap.size) v (if Al bs no tree=0 then nodeAt bs no else Pi)∧Bf w' (FB w' w.heap.size) ev ⟨[no],Al bs no tree⟩
theorem GZ.bad {w:World} {bs:List UInt8} {no tree:Int} (w1:World) (E:Int) (hE:E≠0) (h:Al bs no tree=E) (hB:Below w.heap.size w w1) (hw:w.heap.size<w1.heap.size) (wE w9:World) (Eo:wE=w1.drew.alloc (.cells #[.int .i64 no,.iface 44 (.int .i64 E)] 186))
 (h9:w9=((((wE.setCell ⟨w.heap.size,0,none⟩ (.int .i64 0)).setCell ⟨w.heap.size,1,none⟩ (.bool false)).setCell ⟨w.heap.size,2,none⟩ (.slice none 0 0)).setCell ⟨w.heap.size,3,none⟩ (.slice none 0 0))) :
 GZ w bs no tree (.returned (.tuple #[WH Pi none 0 0 none 0 0,.iface 184 (.pointer (some ⟨w1.heap.size,0,none⟩))])) w9:=by
 subst h9
 refine ⟨_,_,rfl,?_,?_⟩
 · rw [h,if_neg hE]
   exact CW.zero
 · rw [h]
   have hi:=Nu w1.drew no E hE (fun b=>b=w1.heap.size) rfl
   rw [← Eo] at hi
   have hs:wE.heap.size=w1.heap.size+1:=by rw [Eo,World.size_alloc];rfl
   have Ey:wE.heap[w1.heap.size]? = some (.cells #[.int .i64 no,.iface 44 (.int .i64 E)] 186 (0,0)):=by rw [Eo];exact heap_alloc_new w1.drew _
   refine hi.keep (fun b hb=>?_) (fun b o hb=>?_)
   · subst hb
     exact ⟨by omega,_,((((Below.heap_setCell _ _ _ _ (by show w1.heap.size≠w.heap.size;omega)).trans (Below.heap_setCell _ _ _ _ (by show w1.heap.size≠w.heap.size;omega))).trans (Below.heap_setCell _ _ _ _ (by show w1.heap.size≠w.heap.size;omega))).trans (Below.heap_setCell _ _ _ _ (by show w1.heap.size≠w.heap.size;omega))).trans Ey⟩
   · exact CZ (by omega) (.int .i64 0) (.bool false) (.slice none 0 0) (.slice none 0 0)
theorem NS {bs:List UInt8} {no:Int} (h:Iw bs no=true):∃ k:Nat,no=k∧k*256+256≤bs.length:=by
 unfold Iw at h
 simp only [Bool.and_eq_true,decide_eq_true_eq] at h
 exact ⟨no.toNat,by omega,by omega⟩
theorem Lf {bs:List UInt8} {no:Int} (h:Iw bs no=false):¬ hasB bs.length no:=by
 unfold Iw at h
 rintro ⟨h1,h2⟩
 rw [decide_eq_true h1,decide_eq_true h2] at h
 cases h
theorem Hr {bs:List UInt8} {k:Nat} (h:k*256+256≤bs.length):(Ct bs k).length=256:=M6 h
set_option maxRecDepth 100000 in
theorem P6 (w:World) (S:Nat→Prop) (a gt:Nat) (bs:List UInt8) (no tree:Int) (hS:∀ b,S b→b<w.heap.size) (h:Am w S a bs) (hl:bs.length≤140737488355328) (hgt:gt<w.heap.size) (ht:w.cell? ⟨gt,0,none⟩=some (.int .i64 tree)) :
 Calls Tryz.prog 94 #[.pointer (some ⟨a,0,none⟩),.int .i64 no,.int .i64 2,.func (.func 95) #[] #[.pointer (some ⟨gt,0,none⟩)]] w fun e w'=>GZ w bs no tree e w'∧Below w.heap.size w w':=by
 have hr1:AP (w.alloc (.cells #[.int .i64 0,.bool false,.slice none 0 0,.slice none 0 0] 125)) w.heap.size 0 false (.slice none 0 0) (.slice none 0 0):=heap_alloc_new w _
 have hB1:Below w.heap.size w (w.alloc (.cells #[.int .i64 0,.bool false,.slice none 0 0,.slice none 0 0] 125)):=(Below.refl _ _).alloc (Nat.le_refl _) _
 generalize hw1:w.alloc (.cells #[.int .i64 0,.bool false,.slice none 0 0,.slice none 0 0] 125)=w1 at *
 have hz2:AP (w1.alloc (.cells #[.int .i64 0,.bool false,.slice none 0 0,.slice none 0 0] 125)) w1.heap.size 0 false (.slice none 0 0) (.slice none 0 0):=heap_alloc_new w1 _
 have Wi:Below w1.heap.size w1 (w1.alloc (.cells #[.int .i64 0,.bool false,.slice none 0 0,.slice none 0 0] 125)):=(Below.refl _ _).alloc (Nat.le_refl _) _
 have hr2:=hr1.below Wi hr1.lt
 have hB2:=hB1.trans (Wi.mono hB1.size)
 have hgz:w.heap.size≠w1.heap.size:=by have:=hr1.lt;omega
 generalize hw2:w1.alloc (.cells #[.int .i64 0,.bool false,.slice none 0 0,.slice none 0 0] 125)=w2 at *
 have HW1:=qh hw1
 have HW2:=qh hw2
 have h2:=h.below hB2 hS
 have hS2:∀ b,S b→b<w2.heap.size:=fun b hb=>Nat.lt_of_lt_of_le (hS b hb) hB2.size
 have UX:=qh (fun w' vb (hB:Below w.heap.size w w') (hb:AU w' (fun b=>b<w'.heap.size) vb (AO bs no)) (hbl:(AO bs no).length=244)=>UV w' (fun b=>b<w'.heap.size) vb (AO bs no) gt tree (fun _ h=>h) hb (by omega) (Nat.lt_of_lt_of_le hgt hB.size) ((hB.cell (p:=⟨gt,0,none⟩) hgt).trans ht))
 have dA:=qh (fun w' vb l (hb:AU w' (fun b=>b<w'.heap.size) vb l) (hl:l.length≤140737488355328)=>GY w' (fun b=>b<w'.heap.size) vb l 2 no (fun _ h=>h) hb hl)
 have HBAD:=qh (fun w1 E hE h hB hw wE Eo w9 h9=>GZ.bad (w:=w) (bs:=bs) (no:=no) (tree:=tree) w1 E hE h hB hw wE w9 Eo h9)
 have HZ2:=qh hz2
 have HR2:=qh hr2
 have OG:=qh hB2
 clear hw1 hw2 hr1 hB1 Wi hz2 hr2 hB2 ht
 go_enter Tryz.func94,Tryz.ntmps94
 go_upto_region 1 with fail
 rw [HW1.out]
 go_upto_region 2 with fail
 rw [HW2.out]
 obtain ⟨gz,Wj⟩:∃ gz,w1.heap.size=gz:=⟨_,rfl⟩
 rw [Wj] at HZ2 hgz ⊢
 clear Wj HW1 HW2
 cases hB0:Iw bs no with
 | false =>
  have EP:Hid (Al bs no tree=3):=by show _=_;unfold Al EJ;rw [if_pos hB0,if_pos (by decide)]
  have NI:=qh (PP w2 S a no bs h2 hl (Lf hB0))
  have hE:(3:Int)≠0:=by decide
  clear hB0 h2
  go_upto_region 4 with (go_at_call 86;refine NI.out.mono ?_;rintro e w3 ⟨rfl,hB3⟩)
  have hrw3:=HR2.out.below hB3 HR2.out.lt
  have Ew:=HZ2.out.below hB3 HZ2.out.lt
  have hBw3:=OG.out.trans (hB3.mono OG.out.size)
  have Z8:=hrw3.lt
  clear hB3
  refine AJ (T:=fun _=>false) (S:=fun w'=>AP w' gz 0 false (.slice none 0 0) (.slice none 0 0)) (by kernel_rfl) (Ew) (fun hHeld=>?_)
  refine qf 0 23 rfl rfl hHeld (by intro w hSw;obtain ⟨x0,x1,x2,x3⟩:=AP.cells hSw;go_simp;(try with_reducible rfl)) ?_
  refine qs 1 24 hHeld ?_
  refine qs 2 25 hHeld ?_
  refine qs 3 26 hHeld ?_
  refine qo 4 fun K hK=>?_
  go_simp
  refine (F4 w3.drew no 3 hE).mono ?_
  rintro e wE ⟨rfl,Eo⟩
  have IP:Below w3.heap.size w3 wE:=by (rw [Eo];exact ((Below.refl _ _).drew.alloc (Nat.le_refl _) _))
  have Bt:=hrw3.below IP hrw3.lt
  obtain ⟨r0,r1,r2,r3⟩:=Bt.cells
  obtain ⟨f0,f1,f2,f3⟩:=Bt.free
  obtain ⟨z0,z1,z2,z3⟩:=(Bt.put 0 false (.slice none 0 0) (.slice none 0 0)).cells
  have Rf:=qh Eo
  clear Eo
  have hHeld:=(show AP wE gz 0 false (.slice none 0 0) (.slice none 0 0) from Ew.below IP Ew.lt)
  refine hK.out _ _ (fun _=>hHeld) (fun _=>?_)
  clear hK K
  (try simp only [Act.put,qS])
  refine qo 5 fun K hK=>?_
  go_simp
  have BI:=(show AP _ gz 0 false (.slice none 0 0) (.slice none 0 0) from AP.UR hHeld hgz (.int .i64 0) (.bool false) (.slice none 0 0) (.slice none 0 0))
  clear hHeld
  have hHeld:=BI
  clear BI
  refine hK.out _ _ (fun _=>hHeld) (fun _=>?_)
  clear hK K
  (try simp only [Act.put,qS])
  refine qs 6 9 hHeld ?_
  refine qd ?_
  go_wp2_with fail
  refine bodyPost_ret (v:=.tuple #[WH Pi none 0 0 none 0 0,.iface 184 (.pointer (some ⟨w3.heap.size,0,none⟩))]) (by simp [results,Tryz.results94,go_sem,z0,z1,z2,z3,WH,Pi]) rfl ⟨HBAD.out w3 3 hE EP.out hBw3 Z8 wE Rf.out _ rfl,?_⟩
  exact (C8 (hBw3.trans (IP.mono hBw3.size)) (Nat.le_refl _) (.int .i64 0) (.bool false) (.slice none 0 0) (.slice none 0 0))
 | true =>
  obtain ⟨k,rfl,hk⟩:=NS hB0
  have rD:Hid (EJ bs 2 k=DD (Ct bs k) 2 k):=by show _=_;unfold EJ;rw [if_neg (by rw [hB0];simp),Int.toNat_natCast]
  have hbody:AO bs k=FT (Ct bs k):=by unfold AO;rw [Int.toNat_natCast]
  have hlb:(Ct bs k).length=256:=Hr hk
  have iH:(AO bs k).length=244:=by rw [hbody];exact Dz hlb
  have X8:Hid (Al bs k tree=if DD (Ct bs k) 2 k≠0 then DD (Ct bs k) 2 k else TF (AO bs k) tree):=by show _=_;unfold Al;rw [rD.out]
  have NI:=qh (Kl w2 S a k bs hS2 h2 hl hk)
  have X5:=qh hbody
  have Po:=qh hlb
  have iI:=qh iH
  clear hB0 h2 hbody hlb iH
  go_upto_region 5 with (go_at_call 86;refine NI.out.mono ?_;rintro e w3 ⟨A3,c3,rfl,hown3,hB3⟩;have PZ:=qh hown3;clear hown3)
  have hrw3:=HR2.out.below hB3 HR2.out.lt
  have Ew:=HZ2.out.below hB3 HZ2.out.lt
  have hBw3:=OG.out.trans (hB3.mono OG.out.size)
  have hb3:AU w3 (fun b=>b<w3.heap.size) (.slice A3 256 c3) (Ct bs k):=by
   have:=(Bp.own (enc:=AX) (d:=(0:UInt8)) DY PZ.out (by omega)).sub (S':=fun b=>b<w3.heap.size) (AB _) (fun b hb=>hb.2)
   exact this
  have hop:=dA.out w3 _ _ hb3 (by rw [Po.out];omega)
  have dB:Hid (∀ v w',CG w3 (DD (Ct bs k) 2 k) (Ct bs k) v w'→DD (Ct bs k) 2 k=0→AU w' (fun b=>b<w'.heap.size) v (AO bs k)):=fun v w' h h0=>by
   unfold CG at h
   rw [if_pos h0] at h
   rw [X5.out]
   exact h.sub (AB _) (fun b hb=>hb.2)
  generalize DD (Ct bs k) 2 k=E at *
  have Wl:=qh hop
  clear hop hb3 hB3 PZ
  by_cases hE:E≠0
  · have EP:Hid (Al bs k tree=E):=by show _=_;rw [X8.out,if_pos hE]
    have Ke:Hid (∀ v w',CG w3 E (Ct bs k) v w'→v=.slice none 0 0):=fun v w' h=>by unfold CG at h;rwa [if_neg hE] at h
    have hEb:((E:Int) != 0)=true:=by rw [bne_iff_ne];exact hE
    go_upto_region 7 with (go_at_call 87;refine Wl.out.mono ?_;rintro e w4 ⟨⟨v4,rfl,hv4⟩,hB4⟩;obtain rfl:=Ke.out _ _ hv4;clear hv4)
    have Rh:=hrw3.below hB4 hrw3.lt
    have Ri:=Ew.below hB4 Ew.lt
    have Uj:=hBw3.trans (hB4.mono hBw3.size)
    have Z9:=Rh.lt
    clear hB4 hrw3 Ew hBw3
    refine AJ (T:=fun _=>false) (S:=fun w'=>AP w' gz 0 false (.slice none 0 0) (.slice none 0 0)) (by kernel_rfl) (Ri) (fun hHeld=>?_)
    refine qf 0 37 rfl rfl hHeld (by intro w hSw;obtain ⟨x0,x1,x2,x3⟩:=AP.cells hSw;go_simp;(try with_reducible rfl)) ?_
    refine qs 1 38 hHeld ?_
    refine qs 2 39 hHeld ?_
    refine qs 3 40 hHeld ?_
    refine qo 4 fun K hK=>?_
    go_simp
    refine (F4 w4.drew (k:Int) E hE).mono ?_
    rintro e wE ⟨rfl,Eo⟩
    have IP:Below w4.heap.size w4 wE:=by (rw [Eo];exact ((Below.refl _ _).drew.alloc (Nat.le_refl _) _))
    have Bt:=Rh.below IP Rh.lt
    obtain ⟨r0,r1,r2,r3⟩:=Bt.cells
    obtain ⟨f0,f1,f2,f3⟩:=Bt.free
    obtain ⟨z0,z1,z2,z3⟩:=(Bt.put 0 false (.slice none 0 0) (.slice none 0 0)).cells
    have Rf:=qh Eo
    clear Eo
    have hHeld:=(show AP wE gz 0 false (.slice none 0 0) (.slice none 0 0) from Ri.below IP Ri.lt)
    refine hK.out _ _ (fun _=>hHeld) (fun _=>?_)
    clear hK K
    (try simp only [Act.put,qS])
    refine qo 5 fun K hK=>?_
    go_simp
    have BI:=(show AP _ gz 0 false (.slice none 0 0) (.slice none 0 0) from AP.UR hHeld hgz (.int .i64 0) (.bool false) (.slice none 0 0) (.slice none 0 0))
    clear hHeld
    have hHeld:=BI
    clear BI
    refine hK.out _ _ (fun _=>hHeld) (fun _=>?_)
    clear hK K
    (try simp only [Act.put,qS])
    refine qs 6 9 hHeld ?_
    refine qd ?_
    go_wp2_with fail
    refine bodyPost_ret (v:=.tuple #[WH Pi none 0 0 none 0 0,.iface 184 (.pointer (some ⟨w4.heap.size,0,none⟩))]) (by simp [results,Tryz.results94,go_sem,z0,z1,z2,z3,WH,Pi]) rfl ⟨HBAD.out w4 E hE EP.out Uj Z9 wE Rf.out _ rfl,?_⟩
    exact (C8 (Uj.trans (IP.mono Uj.size)) (Nat.le_refl _) (.int .i64 0) (.bool false) (.slice none 0 0) (.slice none 0 0))
  · obtain rfl:E=0:=Classical.not_not.1 hE
    have Lg:Hid (Al bs k tree=TF (AO bs k) tree):=by show _=_;rw [X8.out,if_neg (by simp)]
    have Qo:=qh (fun w4 v4 (hB4:Below w3.heap.size w3 w4) (hv:CG w3 0 (Ct bs k) v4 w4)=>UX.out w4 v4 (hBw3.trans (hB4.mono hBw3.size)) (dB.out _ _ hv rfl) iI.out)
    have Ke:Hid (∀ v w',CG w3 0 (Ct bs k) v w'→∃ A n c,v=.slice A n c):=fun v w' h=>by obtain ⟨A,c,e,_⟩:=dB.out _ _ h rfl;exact ⟨A,_,c,e⟩
    obtain ⟨F,hF⟩:∃ F,TF (AO bs k) tree=F:=⟨_,rfl⟩
    have Rj:Hid (∀ w4 v4,Below w3.heap.size w3 w4→CG w3 0 (Ct bs k) v4 w4→Calls Tryz.prog 95 #[v4,.pointer (some ⟨gt,0,none⟩)] w4 fun e w'=>(∃ t lf Ak nk ck Av nv cv,e=.returned (.tuple #[.agg #[.int .i64 t,.bool lf,.slice Ak nk ck,.slice Av nv cv],.int .i64 F])∧Hid (CW w' (Fu w4.heap.size w'.heap.size) (.agg #[.int .i64 t,.bool lf,.slice Ak nk ck,.slice Av nv cv]) (if CK (AO bs k)=0 then nodeAt bs k else Pi)))∧Below w4.heap.size w4 w'):=fun w4 v4 hB hv=>(Qo.out w4 v4 hB hv).mono (by
     rintro e w' ⟨⟨v,rfl,hn⟩,hB'⟩
     obtain ⟨Ak,nk,ck,Av,nv,cv,rfl⟩:=hn.open_
     exact ⟨⟨_,_,Ak,nk,ck,Av,nv,cv,by rw [hF];rfl,hn⟩,hB'⟩)
    rw [hF] at Lg
    have ja:Hid (F=0→CK (AO bs k)=0):=fun h0=>by
     rw [← hF] at h0
     unfold TF at h0
     by_cases hh:CK (AO bs k)=0
     · exact hh
     · rw [if_pos hh] at h0;exact absurd h0 hh
    clear Qo UX hF dB X8
    go_upto_region 9 with (first
     | (go_at_call 87;refine Wl.out.mono ?_;rintro e w4 ⟨⟨v4,rfl,hv4⟩,hB4⟩;have MP:=qh (Rj.out w4 v4 hB4 hv4);obtain ⟨A4,n4,c4,rfl⟩:=Ke.out _ _ hv4;clear hv4)
     | (go_at_call 95;refine MP.out.mono ?_;rintro e w5 ⟨⟨t,lf,Ak,nk,ck,Av,nv,cv,rfl,nV⟩,BX⟩))
    have Kb:=hBw3.trans ((hB4.trans (BX.mono hB4.size)).mono hBw3.size)
    have Rk:=(hrw3.below hB4 hrw3.lt).below BX (hrw3.below hB4 hrw3.lt).lt
    have Rl:=(Ew.below hB4 Ew.lt).below BX (Ew.below hB4 Ew.lt).lt
    have FP:Below w5.heap.size w5 (w5.alloc (.cells #[.int .i64 t,.bool lf,.slice Ak nk ck,.slice Av nv cv] 125)):=(Below.refl _ _).alloc (Nat.le_refl _) _
    have Rm:AP (w5.alloc (.cells #[.int .i64 t,.bool lf,.slice Ak nk ck,.slice Av nv cv] 125)) w5.heap.size t lf (.slice Ak nk ck) (.slice Av nv cv):=heap_alloc_new w5 _
    generalize w5.alloc (.cells #[.int .i64 t,.bool lf,.slice Ak nk ck,.slice Av nv cv] 125)=w6 at *
    have Dk:=Rk.below FP Rk.lt
    have Rn:=Rl.below FP Rl.lt
    have F5:=Kb.trans (FP.mono Kb.size)
    have aA:=Dk.lt
    have AAD:w.heap.size<w4.heap.size:=(hrw3.below hB4 hrw3.lt).lt
    have jb:=qh FP
    have AAE:=qh BX
    clear hB4 BX FP hrw3 Ew hBw3 Rk Rl Kb
    by_cases hE:F≠0
    · have EP:Hid (Al bs k tree=F):=Lg
      have hFb:((F:Int) != 0)=true:=by rw [bne_iff_ne];exact hE
      clear Rm nV Lg ja
      go_upto_region 10 with fail
      refine AJ (T:=fun _=>false) (S:=fun w'=>AP w' gz 0 false (.slice none 0 0) (.slice none 0 0)) (by kernel_rfl) (Rn) (fun hHeld=>?_)
      refine qf 0 50 rfl rfl hHeld (by intro w hSw;obtain ⟨x0,x1,x2,x3⟩:=AP.cells hSw;go_simp;(try with_reducible rfl)) ?_
      refine qs 1 51 hHeld ?_
      refine qs 2 52 hHeld ?_
      refine qs 3 53 hHeld ?_
      refine qo 4 fun K hK=>?_
      go_simp
      refine (F4 w6.drew (k:Int) F hE).mono ?_
      rintro e wE ⟨rfl,Eo⟩
      have IP:Below w6.heap.size w6 wE:=by (rw [Eo];exact ((Below.refl _ _).drew.alloc (Nat.le_refl _) _))
      have Bt:=Dk.below IP Dk.lt
      obtain ⟨r0,r1,r2,r3⟩:=Bt.cells
      obtain ⟨f0,f1,f2,f3⟩:=Bt.free
      obtain ⟨z0,z1,z2,z3⟩:=(Bt.put 0 false (.slice none 0 0) (.slice none 0 0)).cells
      have Rf:=qh Eo
      clear Eo
      have hHeld:=(show AP wE gz 0 false (.slice none 0 0) (.slice none 0 0) from Rn.below IP Rn.lt)
      refine hK.out _ _ (fun _=>hHeld) (fun _=>?_)
      clear hK K
      (try simp only [Act.put,qS])
      refine qo 5 fun K hK=>?_
      go_simp
      have BI:=(show AP _ gz 0 false (.slice none 0 0) (.slice none 0 0) from AP.UR hHeld hgz (.int .i64 0) (.bool false) (.slice none 0 0) (.slice none 0 0))
      clear hHeld
      have hHeld:=BI
      clear BI
      refine hK.out _ _ (fun _=>hHeld) (fun _=>?_)
      clear hK K
      (try simp only [Act.put,qS])
      refine qs 6 9 hHeld ?_
      refine qd ?_
      go_wp2_with fail
      refine bodyPost_ret (v:=.tuple #[WH Pi none 0 0 none 0 0,.iface 184 (.pointer (some ⟨w6.heap.size,0,none⟩))]) (by simp [results,Tryz.results94,go_sem,z0,z1,z2,z3,WH,Pi]) rfl ⟨HBAD.out w6 F hE EP.out F5 aA wE Rf.out _ rfl,?_⟩
      exact (C8 (F5.trans (IP.mono F5.size)) (Nat.le_refl _) (.int .i64 0) (.bool false) (.slice none 0 0) (.slice none 0 0))
    · obtain rfl:F=0:=Classical.not_not.1 hE
      obtain ⟨x0,x1,x2,x3⟩:=Rm.cells
      obtain ⟨r0,r1,r2,r3⟩:=Dk.cells
      obtain ⟨f0,f1,f2,f3⟩:=Dk.free
      obtain ⟨z0,z1,z2,z3⟩:=(Dk.put t lf (.slice Ak nk ck) (.slice Av nv cv)).cells
      have dC:=qh F5
      clear F5
      go_wp2_with fail
      refine bodyPost_ret (v:=.tuple #[.agg #[.int .i64 t,.bool lf,.slice Ak nk ck,.slice Av nv cv],.nilIface]) (by simp [results,Tryz.results94,go_sem,z0,z1,z2,z3]) rfl ⟨⟨_,_,rfl,?_,?_⟩,C8 dC.out (Nat.le_refl _) (.int .i64 t) (.bool lf) (.slice Ak nk ck) (.slice Av nv cv)⟩
      · rw [if_pos Lg.out]
        have hi:=nV.out
        rw [if_pos (ja.out (by first|trivial|rfl))] at hi
        refine hi.keep (fun b hb=>⟨by have:=hb.1;omega,by have:=hb.2;have:=jb.out.size;simp [World.setCell];omega⟩) (fun b o hb=>?_)
        rw [CZ (by have:=hb.1;omega) (.int .i64 t) (.bool lf) (.slice Ak nk ck) (.slice Av nv cv)]
        exact jb.out.cell (p:=⟨b,o,none⟩) hb.2
      · rw [Lg.out]
        exact Bf.DW
end
section
open Go.RowKit
attribute [local go_sem] Oper.semAt_some
theorem GZ.open_ {w w':World} {bs:List UInt8} {no tree:Int} {e:Ending} (h:GZ w bs no tree e w'):∃ t lf Ak nk ck Av nv cv ev,e=.returned (.tuple #[.agg #[.int .i64 t,.bool lf,.slice Ak nk ck,.slice Av nv cv],ev]) ∧
 Hid (CW w' (Fu w.heap.size w'.heap.size) (.agg #[.int .i64 t,.bool lf,.slice Ak nk ck,.slice Av nv cv]) (if Al bs no tree=0 then nodeAt bs no else Pi))∧Hid (Bf w' (FB w' w.heap.size) ev ⟨[no],Al bs no tree⟩):=by
 obtain ⟨v,ev,rfl,hn,he⟩:=h
 obtain ⟨Ak,nk,ck,Av,nv,cv,rfl⟩:=hn.open_
 exact ⟨_,_,Ak,nk,ck,Av,nv,cv,ev,rfl,hn,he⟩
set_option maxRecDepth 100000 in
theorem Fj (w:World) (S:Nat→Prop) (a:Nat) (bs:List UInt8) (no tree:Int) (hS:∀ b,S b→b<w.heap.size) (h:Am w S a bs) (hl:bs.length≤140737488355328) :
 Calls Tryz.prog 52 #[.pointer (some ⟨a,0,none⟩),.int .i64 no,.int .i64 tree] w fun e w'=>GZ w bs no tree e w'∧Below w.heap.size w w':=by
 have hx:=AL.new w #[.int .i64 tree] 3
 have hB1:Below w.heap.size w (w.alloc (.cells #[.int .i64 tree] 3)):=(Below.refl _ _).alloc (Nat.le_refl _) _
 have hr2:AP ((w.alloc (.cells #[.int .i64 tree] 3)).alloc (.cells #[.int .i64 0,.bool false,.slice none 0 0,.slice none 0 0] 125)) (w.heap.size+1) 0 false (.slice none 0 0) (.slice none 0 0):=by
  have:=heap_alloc_new (w.alloc (.cells #[.int .i64 tree] 3)) (.cells #[.int .i64 0,.bool false,.slice none 0 0,.slice none 0 0] 125)
  rw [World.size_alloc] at this
  exact this
 have hB2:Below w.heap.size w ((w.alloc (.cells #[.int .i64 tree] 3)).alloc (.cells #[.int .i64 0,.bool false,.slice none 0 0,.slice none 0 0] 125)):=hB1.alloc hB1.size _
 have ht2:((w.alloc (.cells #[.int .i64 tree] 3)).alloc (.cells #[.int .i64 0,.bool false,.slice none 0 0,.slice none 0 0] 125)).cell? ⟨w.heap.size,0,none⟩=some (.int .i64 tree):=(World.cell?_of_block (a:=⟨w.heap.size,0,none⟩) (Below.heap_alloc _ _ _ hx.lt)).trans (hx.at 0 _ rfl)
 go_enter Tryz.func52,Tryz.ntmps52
 go_upto_region 1 with fail
 generalize (w.alloc (.cells #[.int .i64 tree] 3)).alloc (.cells #[.int .i64 0,.bool false,.slice none 0 0,.slice none 0 0] 125)=w2 at *
 have hlt2:w.heap.size<w2.heap.size:=by have:=hr2.lt;omega
 have HR:=qh (P6 w2 S a w.heap.size bs no tree (fun b hb=>Nat.lt_of_lt_of_le (hS b hb) hB2.size) (h.below hB2 hS) hl hlt2 ht2)
 have HR2:=qh hr2
 have HB2:=qh hB2
 clear hx hB1 hr2 hB2 ht2 h
 go_wp2_with (go_at_call 94;refine HR.out.mono ?_;rintro e w3 ⟨hnr,hB3⟩;obtain ⟨t,lf,Ak,nk,ck,Av,nv,cv,ev,rfl,HN,HE⟩:=hnr.open_;have hr3:=HR2.out.below hB3 HR2.out.lt;have HB3:=qh hB3;obtain ⟨r0,r1,r2,r3⟩:=hr3.cells;obtain ⟨f0,f1,f2,f3⟩:=hr3.free;obtain ⟨z0,z1,z2,z3⟩:=(hr3.put t lf (.slice Ak nk ck) (.slice Av nv cv)).cells;clear hnr hB3)
 have hl1:=HR2.out.lt
 refine bodyPost_ret (v:=.tuple #[.agg #[.int .i64 t,.bool lf,.slice Ak nk ck,.slice Av nv cv],ev]) (by simp [results,Tryz.results52,go_sem,z0,z1,z2,z3]) rfl ⟨⟨_,_,rfl,?_,?_⟩,C8 (HB2.out.trans (HB3.out.mono HB2.out.size)) (Nat.le_succ _) (.int .i64 t) (.bool lf) (.slice Ak nk ck) (.slice Av nv cv)⟩
 · exact HN.out.keep (fun b hb=>⟨by have:=hb.1;omega,by have:=hb.2;simpa [World.setCell] using this⟩) (fun b o hb=>CZ (by have:=hb.1;omega) (.int .i64 t) (.bool lf) (.slice Ak nk ck) (.slice Av nv cv))
 · have hg:w.heap.size+1<w2.heap.size:=hl1
   have hne:∀ b,w2.heap.size≤b→b≠w.heap.size+1:=fun b hb=>by omega
   exact HE.out.keep (fun b hb=>⟨by have:=hb.1;omega,by obtain ⟨cs,h⟩:=hb.2;exact ⟨cs,((((Below.heap_setCell _ _ _ _ (hne b hb.1)).trans (Below.heap_setCell _ _ _ _ (hne b hb.1))).trans (Below.heap_setCell _ _ _ _ (hne b hb.1))).trans (Below.heap_setCell _ _ _ _ (hne b hb.1))).trans h⟩⟩) (fun b o hb=>CZ (by have:=hb.1;omega) (.int .i64 t) (.bool lf) (.slice Ak nk ck) (.slice Av nv cv))
end
end Go.Proofs.YthblbddmcdnllaaGreatDoor
