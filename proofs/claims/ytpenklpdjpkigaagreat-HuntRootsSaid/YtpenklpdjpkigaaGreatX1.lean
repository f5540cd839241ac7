/- A part of the proof: WBlk2, WBlk3. -/
import Derived.Test.YtpenklpdjpkigaaGreatY10
import Derived.Test.YtpenklpdjpkigaaGreatY17
import Derived.Test.YtpenklpdjpkigaaGreatY4
import Derived.Test.YtpenklpdjpkigaaGreatY5
import Derived.Test.YtpenklpdjpkigaaGreatY1
set_option maxHeartbeats 6400000
set_option linter.unusedVariables false
set_option linter.unusedSimpArgs false
namespace Go.Proofs.YtpenklpdjpkigaaGreat
section
open Go.RowKit
attribute [local go_sem] Oper.semAt_some
def Gv (w:World) (bs:List UInt8) (no tree:Int) (e:Ending) (w':World):Prop:=∃ v ev,e=.returned (.tuple #[v,ev])∧Bp w' (C9 w.heap.size w'.heap.size) v (if AZ bs no tree=0 then nodeAt bs no else Mr)∧CJ w' (FB w' w.heap.size) ev ⟨[no],AZ bs no tree⟩
theorem Gv.bad {w:World} {bs:List UInt8} {no tree:Int} (w1:World) (E:Int) (hE:E≠0) (h:AZ bs no tree=E) (hB:Below w.heap.size w w1) (hw:w.heap.size<w1.heap.size) (wE w9:World) (Gd:wE=w1.drew.alloc (.cells #[.int .i64 no,.iface 88 (.int .i64 E)] 327))
 (h9:w9=((((wE.setCell ⟨w.heap.size,0,none⟩ (.int .i64 0)).setCell ⟨w.heap.size,1,none⟩ (.bool false)).setCell ⟨w.heap.size,2,none⟩ (.slice none 0 0)).setCell ⟨w.heap.size,3,none⟩ (.slice none 0 0))) :
 Gv w bs no tree (.returned (.tuple #[fP Mr none 0 0 none 0 0,.iface 325 (.pointer (some ⟨w1.heap.size,0,none⟩))])) w9:=by
 subst h9
 refine ⟨_,_,rfl,?_,?_⟩
 · rw [h,if_neg hE]
   exact Bp.zero
 · rw [h]
   have hi:=Sd w1.drew no E hE (fun b=>b=w1.heap.size) rfl
   rw [← Gd] at hi
   have hs:wE.heap.size=w1.heap.size+1:=by rw [Gd,World.size_alloc];rfl
   have I6:wE.heap[w1.heap.size]? = some (.cells #[.int .i64 no,.iface 88 (.int .i64 E)] 327 (0,0)):=by rw [Gd];exact heap_alloc_new w1.drew _
   refine hi.keep (fun b hb=>?_) (fun b o hb=>?_)
   · subst hb
     exact ⟨by omega,_,((((Below.heap_setCell _ _ _ _ (by show w1.heap.size≠w.heap.size;omega)).trans (Below.heap_setCell _ _ _ _ (by show w1.heap.size≠w.heap.size;omega))).trans (Below.heap_setCell _ _ _ _ (by show w1.heap.size≠w.heap.size;omega))).trans (Below.heap_setCell _ _ _ _ (by show w1.heap.size≠w.heap.size;omega))).trans I6⟩
   · exact DN (by omega) (.int .i64 0) (.bool false) (.slice none 0 0) (.slice none 0 0)
theorem Rm {bs:List UInt8} {no:Int} (h:GA bs no=true):∃ k:Nat,no=k∧k*256+256≤bs.length:=by
 unfold GA at h
 simp only [Bool.and_eq_true,decide_eq_true_eq] at h
 exact ⟨no.toNat,by omega,by omega⟩
theorem PY {bs:List UInt8} {no:Int} (h:GA bs no=false):¬ hasB bs.length no:=by
 unfold GA at h
 rintro ⟨h1,h2⟩
 rw [decide_eq_true h1,decide_eq_true h2] at h
 cases h
theorem U5 {bs:List UInt8} {k:Nat} (h:k*256+256≤bs.length):(DY bs k).length=256:=RI h
set_option maxRecDepth 100000 in
theorem U6 (w:World) (S:Nat→Prop) (a gt:Nat) (bs:List UInt8) (no tree:Int) (hS:∀ b,S b→b<w.heap.size) (h:Cj w S a bs) (hl:bs.length≤140737488355328) (hgt:gt<w.heap.size) (ht:w.cell? ⟨gt,0,none⟩=some (.int .i64 tree)) :
 Calls Tryz.prog 138 #[.pointer (some ⟨a,0,none⟩),.int .i64 no,.int .i64 2,.func (.func 139) #[] #[.pointer (some ⟨gt,0,none⟩)]] w fun e w'=>Gv w bs no tree e w'∧Below w.heap.size w w':=by
 have hr1:AU (w.alloc (.cells #[.int .i64 0,.bool false,.slice none 0 0,.slice none 0 0] 173)) w.heap.size 0 false (.slice none 0 0) (.slice none 0 0):=heap_alloc_new w _
 have hB1:Below w.heap.size w (w.alloc (.cells #[.int .i64 0,.bool false,.slice none 0 0,.slice none 0 0] 173)):=(Below.refl _ _).alloc (Nat.le_refl _) _
 generalize hw1:w.alloc (.cells #[.int .i64 0,.bool false,.slice none 0 0,.slice none 0 0] 173)=w1 at *
 have hz2:AU (w1.alloc (.cells #[.int .i64 0,.bool false,.slice none 0 0,.slice none 0 0] 173)) w1.heap.size 0 false (.slice none 0 0) (.slice none 0 0):=heap_alloc_new w1 _
 have Fg:Below w1.heap.size w1 (w1.alloc (.cells #[.int .i64 0,.bool false,.slice none 0 0,.slice none 0 0] 173)):=(Below.refl _ _).alloc (Nat.le_refl _) _
 have hr2:=hr1.below Fg hr1.lt
 have hB2:=hB1.trans (Fg.mono hB1.size)
 have hgz:w.heap.size≠w1.heap.size:=by have:=hr1.lt;omega
 generalize hw2:w1.alloc (.cells #[.int .i64 0,.bool false,.slice none 0 0,.slice none 0 0] 173)=w2 at *
 have HW1:=qh hw1
 have HW2:=qh hw2
 have h2:=h.below hB2 hS
 have hS2:∀ b,S b→b<w2.heap.size:=fun b hb=>Nat.lt_of_lt_of_le (hS b hb) hB2.size
 have Ms:=qh (fun w' vb (hB:Below w.heap.size w w') (hb:AX w' (fun b=>b<w'.heap.size) vb (Bz bs no)) (hbl:(Bz bs no).length=244)=>Zl w' (fun b=>b<w'.heap.size) vb (Bz bs no) gt tree (fun _ h=>h) hb (by omega) (Nat.lt_of_lt_of_le hgt hB.size) ((hB.cell (p:=⟨gt,0,none⟩) hgt).trans ht))
 have zN:=qh (fun w' vb l (hb:AX w' (fun b=>b<w'.heap.size) vb l) (hl:l.length≤140737488355328)=>MF w' (fun b=>b<w'.heap.size) vb l 2 no (fun _ h=>h) hb hl)
 have HBAD:=qh (fun w1 E hE h hB hw wE Gd w9 h9=>Gv.bad (w:=w) (bs:=bs) (no:=no) (tree:=tree) w1 E hE h hB hw wE w9 Gd h9)
 have HZ2:=qh hz2
 have HR2:=qh hr2
 have TC:=qh hB2
 clear hw1 hw2 hr1 hB1 Fg hz2 hr2 hB2 ht
 go_enter Tryz.func138,Tryz.ntmps138
 go_upto_region 1 with fail
 rw [HW1.out]
 go_upto_region 2 with fail
 rw [HW2.out]
 obtain ⟨gz,gW⟩:∃ gz,w1.heap.size=gz:=⟨_,rfl⟩
 rw [gW] at HZ2 hgz ⊢
 clear gW HW1 HW2
 cases hB0:GA bs no with
 | false =>
  have ET:Hid (AZ bs no tree=3):=by show _=_;unfold AZ CQ;rw [if_pos hB0,if_pos (by decide)]
  have Lc:=qh (UZ w2 S a no bs h2 hl (PY hB0))
  have hE:(3:Int)≠0:=by decide
  clear hB0 h2
  go_upto_region 4 with (go_at_call 91;refine Lc.out.mono ?_;rintro e w3 ⟨rfl,hB3⟩)
  have hrw3:=HR2.out.below hB3 HR2.out.lt
  have Gp:=HZ2.out.below hB3 HZ2.out.lt
  have hBw3:=TC.out.trans (hB3.mono TC.out.size)
  have qD:=hrw3.lt
  clear hB3
  refine AF (T:=fun _=>false) (S:=fun w'=>AU w' gz 0 false (.slice none 0 0) (.slice none 0 0)) (by kernel_rfl) (Gp) (fun hHeld=>?_)
  refine qf 0 23 rfl rfl hHeld (by intro w hSw;obtain ⟨x0,x1,x2,x3⟩:=AU.cells hSw;go_simp;(try with_reducible rfl)) ?_
  refine qs 1 24 hHeld ?_
  refine qs 2 25 hHeld ?_
  refine qs 3 26 hHeld ?_
  refine qo 4 fun K hK=>?_
  go_simp
  refine (Iw w3.drew no 3 hE).mono ?_
  rintro e wE ⟨rfl,Gd⟩
  have KV:Below w3.heap.size w3 wE:=by (rw [Gd];exact ((Below.refl _ _).drew.alloc (Nat.le_refl _) _))
  have Ci:=hrw3.below KV hrw3.lt
  obtain ⟨r0,r1,r2,r3⟩:=Ci.cells
  obtain ⟨f0,f1,f2,f3⟩:=Ci.free
  obtain ⟨z0,z1,z2,z3⟩:=(Ci.put 0 false (.slice none 0 0) (.slice none 0 0)).cells
  have Wv:=qh Gd
  clear Gd
  have hHeld:=(show AU wE gz 0 false (.slice none 0 0) (.slice none 0 0) from Gp.below KV Gp.lt)
  refine hK.out _ _ (fun _=>hHeld) (fun _=>?_)
  clear hK K
  (try simp only [Act.put,qS])
  refine qo 5 fun K hK=>?_
  go_simp
  have Bi:=(show AU _ gz 0 false (.slice none 0 0) (.slice none 0 0) from AU.Zg hHeld hgz (.int .i64 0) (.bool false) (.slice none 0 0) (.slice none 0 0))
  clear hHeld
  have hHeld:=Bi
  clear Bi
  refine hK.out _ _ (fun _=>hHeld) (fun _=>?_)
  clear hK K
  (try simp only [Act.put,qS])
  refine qs 6 9 hHeld ?_
  refine qd ?_
  go_wp2_with fail
  refine bodyPost_ret (v:=.tuple #[fP Mr none 0 0 none 0 0,.iface 325 (.pointer (some ⟨w3.heap.size,0,none⟩))]) (by simp [results,Tryz.results138,go_sem,z0,z1,z2,z3,fP,Mr]) rfl ⟨HBAD.out w3 3 hE ET.out hBw3 qD wE Wv.out _ rfl,?_⟩
  exact (DD (hBw3.trans (KV.mono hBw3.size)) (Nat.le_refl _) (.int .i64 0) (.bool false) (.slice none 0 0) (.slice none 0 0))
 | true =>
  obtain ⟨k,rfl,hk⟩:=Rm hB0
  have HOA:Hid (CQ bs 2 k=DW (DY bs k) 2 k):=by show _=_;unfold CQ;rw [if_neg (by rw [hB0];simp),Int.toNat_natCast]
  have hbody:Bz bs k=Dl (DY bs k):=by unfold Bz;rw [Int.toNat_natCast]
  have hlb:(DY bs k).length=256:=U5 hk
  have qE:(Bz bs k).length=244:=by rw [hbody];exact GZ hlb
  have gX:Hid (AZ bs k tree=if DW (DY bs k) 2 k≠0 then DW (DY bs k) 2 k else UR (Bz bs k) tree):=by show _=_;unfold AZ;rw [HOA.out]
  have Lc:=qh (YG w2 S a k bs hS2 h2 hl hk)
  have We:=qh hbody
  have Uv:=qh hlb
  have xn:=qh qE
  clear hB0 h2 hbody hlb qE
  go_upto_region 5 with (go_at_call 91;refine Lc.out.mono ?_;rintro e w3 ⟨A3,c3,rfl,hown3,hB3⟩;have YS:=qh hown3;clear hown3)
  have hrw3:=HR2.out.below hB3 HR2.out.lt
  have Gp:=HZ2.out.below hB3 HZ2.out.lt
  have hBw3:=TC.out.trans (hB3.mono TC.out.size)
  have hb3:AX w3 (fun b=>b<w3.heap.size) (.slice A3 256 c3) (DY bs k):=by
   have:=(CF.own (enc:=Au) (d:=(0:UInt8)) D8 YS.out (by omega)).sub (S':=fun b=>b<w3.heap.size) (AA _) (fun b hb=>hb.2)
   exact this
  have hop:=zN.out w3 _ _ hb3 (by rw [Uv.out];omega)
  have uD:Hid (∀ v w',Bt w3 (DW (DY bs k) 2 k) (DY bs k) v w'→DW (DY bs k) 2 k=0→AX w' (fun b=>b<w'.heap.size) v (Bz bs k)):=fun v w' h h0=>by
   unfold Bt at h
   rw [if_pos h0] at h
   rw [We.out]
   exact h.sub (AA _) (fun b hb=>hb.2)
  generalize DW (DY bs k) 2 k=E at *
  have gY:=qh hop
  clear hop hb3 hB3 YS
  by_cases hE:E≠0
  · have ET:Hid (AZ bs k tree=E):=by show _=_;rw [gX.out,if_pos hE]
    have Nu:Hid (∀ v w',Bt w3 E (DY bs k) v w'→v=.slice none 0 0):=fun v w' h=>by unfold Bt at h;rwa [if_neg hE] at h
    have mO:((E:Int) != 0)=true:=by rw [bne_iff_ne];exact hE
    go_upto_region 7 with (go_at_call 93;refine gY.out.mono ?_;rintro e w4 ⟨⟨v4,rfl,hv4⟩,hB4⟩;obtain rfl:=Nu.out _ _ hv4;clear hv4)
    have Ww:=hrw3.below hB4 hrw3.lt
    have Wx:=Gp.below hB4 Gp.lt
    have Z9:=hBw3.trans (hB4.mono hBw3.size)
    have qF:=Ww.lt
    clear hB4 hrw3 Gp hBw3
    refine AF (T:=fun _=>false) (S:=fun w'=>AU w' gz 0 false (.slice none 0 0) (.slice none 0 0)) (by kernel_rfl) (Wx) (fun hHeld=>?_)
    refine qf 0 37 rfl rfl hHeld (by intro w hSw;obtain ⟨x0,x1,x2,x3⟩:=AU.cells hSw;go_simp;(try with_reducible rfl)) ?_
    refine qs 1 38 hHeld ?_
    refine qs 2 39 hHeld ?_
    refine qs 3 40 hHeld ?_
    refine qo 4 fun K hK=>?_
    go_simp
    refine (Iw w4.drew (k:Int) E hE).mono ?_
    rintro e wE ⟨rfl,Gd⟩
    have KV:Below w4.heap.size w4 wE:=by (rw [Gd];exact ((Below.refl _ _).drew.alloc (Nat.le_refl _) _))
    have Ci:=Ww.below KV Ww.lt
    obtain ⟨r0,r1,r2,r3⟩:=Ci.cells
    obtain ⟨f0,f1,f2,f3⟩:=Ci.free
    obtain ⟨z0,z1,z2,z3⟩:=(Ci.put 0 false (.slice none 0 0) (.slice none 0 0)).cells
    have Wv:=qh Gd
    clear Gd
    have hHeld:=(show AU wE gz 0 false (.slice none 0 0) (.slice none 0 0) from Wx.below KV Wx.lt)
    refine hK.out _ _ (fun _=>hHeld) (fun _=>?_)
    clear hK K
    (try simp only [Act.put,qS])
    refine qo 5 fun K hK=>?_
    go_simp
    have Bi:=(show AU _ gz 0 false (.slice none 0 0) (.slice none 0 0) from AU.Zg hHeld hgz (.int .i64 0) (.bool false) (.slice none 0 0) (.slice none 0 0))
    clear hHeld
    have hHeld:=Bi
    clear Bi
    refine hK.out _ _ (fun _=>hHeld) (fun _=>?_)
    clear hK K
    (try simp only [Act.put,qS])
    refine qs 6 9 hHeld ?_
    refine qd ?_
    go_wp2_with fail
    refine bodyPost_ret (v:=.tuple #[fP Mr none 0 0 none 0 0,.iface 325 (.pointer (some ⟨w4.heap.size,0,none⟩))]) (by simp [results,Tryz.results138,go_sem,z0,z1,z2,z3,fP,Mr]) rfl ⟨HBAD.out w4 E hE ET.out Z9 qF wE Wv.out _ rfl,?_⟩
    exact (DD (Z9.trans (KV.mono Z9.size)) (Nat.le_refl _) (.int .i64 0) (.bool false) (.slice none 0 0) (.slice none 0 0))
  · obtain rfl:E=0:=Classical.not_not.1 hE
    have PZ:Hid (AZ bs k tree=UR (Bz bs k) tree):=by show _=_;rw [gX.out,if_neg (by simp)]
    have Ql:=qh (fun w4 v4 (hB4:Below w3.heap.size w3 w4) (hv:Bt w3 0 (DY bs k) v4 w4)=>Ms.out w4 v4 (hBw3.trans (hB4.mono hBw3.size)) (uD.out _ _ hv rfl) xn.out)
    have Nu:Hid (∀ v w',Bt w3 0 (DY bs k) v w'→∃ A n c,v=.slice A n c):=fun v w' h=>by obtain ⟨A,c,e,_⟩:=uD.out _ _ h rfl;exact ⟨A,_,c,e⟩
    obtain ⟨F,hF⟩:∃ F,UR (Bz bs k) tree=F:=⟨_,rfl⟩
    have aA:Hid (∀ w4 v4,Below w3.heap.size w3 w4→Bt w3 0 (DY bs k) v4 w4→Calls Tryz.prog 139 #[v4,.pointer (some ⟨gt,0,none⟩)] w4 fun e w'=>(∃ t lf Ak nk ck Av nv cv,e=.returned (.tuple #[.agg #[.int .i64 t,.bool lf,.slice Ak nk ck,.slice Av nv cv],.int .i64 F])∧Hid (Bp w' (C9 w4.heap.size w'.heap.size) (.agg #[.int .i64 t,.bool lf,.slice Ak nk ck,.slice Av nv cv]) (if Bl (Bz bs k)=0 then nodeAt bs k else Mr)))∧Below w4.heap.size w4 w'):=fun w4 v4 hB hv=>(Ql.out w4 v4 hB hv).mono (by
     rintro e w' ⟨⟨v,rfl,hn⟩,hB'⟩
     obtain ⟨Ak,nk,ck,Av,nv,cv,rfl⟩:=hn.open_
     exact ⟨⟨_,_,Ak,nk,ck,Av,nv,cv,by rw [hF];rfl,hn⟩,hB'⟩)
    rw [hF] at PZ
    have OO:Hid (F=0→Bl (Bz bs k)=0):=fun h0=>by
     rw [← hF] at h0
     unfold UR at h0
     by_cases hh:Bl (Bz bs k)=0
     · exact hh
     · rw [if_pos hh] at h0;exact absurd h0 hh
    clear Ql Ms hF uD gX
    go_upto_region 9 with (first
     | (go_at_call 93;refine gY.out.mono ?_;rintro e w4 ⟨⟨v4,rfl,hv4⟩,hB4⟩;have Nv:=qh (aA.out w4 v4 hB4 hv4);obtain ⟨A4,n4,c4,rfl⟩:=Nu.out _ _ hv4;clear hv4)
     | (go_at_call 139;refine Nv.out.mono ?_;rintro e w5 ⟨⟨t,lf,Ak,nk,ck,Av,nv,cv,rfl,HNI⟩,BS⟩))
    have Nt:=hBw3.trans ((hB4.trans (BS.mono hB4.size)).mono hBw3.size)
    have Wy:=(hrw3.below hB4 hrw3.lt).below BS (hrw3.below hB4 hrw3.lt).lt
    have Wz:=(Gp.below hB4 Gp.lt).below BS (Gp.below hB4 Gp.lt).lt
    have EG:Below w5.heap.size w5 (w5.alloc (.cells #[.int .i64 t,.bool lf,.slice Ak nk ck,.slice Av nv cv] 173)):=(Below.refl _ _).alloc (Nat.le_refl _) _
    have XA:AU (w5.alloc (.cells #[.int .i64 t,.bool lf,.slice Ak nk ck,.slice Av nv cv] 173)) w5.heap.size t lf (.slice Ak nk ck) (.slice Av nv cv):=heap_alloc_new w5 _
    generalize w5.alloc (.cells #[.int .i64 t,.bool lf,.slice Ak nk ck,.slice Av nv cv] 173)=w6 at *
    have Ev:=Wy.below EG Wy.lt
    have XB:=Wz.below EG Wz.lt
    have Iz:=Nt.trans (EG.mono Nt.size)
    have qG:=Ev.lt
    have AEM:w.heap.size<w4.heap.size:=(hrw3.below hB4 hrw3.lt).lt
    have mP:=qh EG
    have AEN:=qh BS
    clear hB4 BS EG hrw3 Gp hBw3 Wy Wz Nt
    by_cases hE:F≠0
    · have ET:Hid (AZ bs k tree=F):=PZ
      have hFb:((F:Int) != 0)=true:=by rw [bne_iff_ne];exact hE
      clear XA HNI PZ OO
      go_upto_region 10 with fail
      refine AF (T:=fun _=>false) (S:=fun w'=>AU w' gz 0 false (.slice none 0 0) (.slice none 0 0)) (by kernel_rfl) (XB) (fun hHeld=>?_)
      refine qf 0 50 rfl rfl hHeld (by intro w hSw;obtain ⟨x0,x1,x2,x3⟩:=AU.cells hSw;go_simp;(try with_reducible rfl)) ?_
      refine qs 1 51 hHeld ?_
      refine qs 2 52 hHeld ?_
      refine qs 3 53 hHeld ?_
      refine qo 4 fun K hK=>?_
      go_simp
      refine (Iw w6.drew (k:Int) F hE).mono ?_
      rintro e wE ⟨rfl,Gd⟩
      have KV:Below w6.heap.size w6 wE:=by (rw [Gd];exact ((Below.refl _ _).drew.alloc (Nat.le_refl _) _))
      have Ci:=Ev.below KV Ev.lt
      obtain ⟨r0,r1,r2,r3⟩:=Ci.cells
      obtain ⟨f0,f1,f2,f3⟩:=Ci.free
      obtain ⟨z0,z1,z2,z3⟩:=(Ci.put 0 false (.slice none 0 0) (.slice none 0 0)).cells
      have Wv:=qh Gd
      clear Gd
      have hHeld:=(show AU wE gz 0 false (.slice none 0 0) (.slice none 0 0) from XB.below KV XB.lt)
      refine hK.out _ _ (fun _=>hHeld) (fun _=>?_)
      clear hK K
      (try simp only [Act.put,qS])
      refine qo 5 fun K hK=>?_
      go_simp
      have Bi:=(show AU _ gz 0 false (.slice none 0 0) (.slice none 0 0) from AU.Zg hHeld hgz (.int .i64 0) (.bool false) (.slice none 0 0) (.slice none 0 0))
      clear hHeld
      have hHeld:=Bi
      clear Bi
      refine hK.out _ _ (fun _=>hHeld) (fun _=>?_)
      clear hK K
      (try simp only [Act.put,qS])
      refine qs 6 9 hHeld ?_
      refine qd ?_
      go_wp2_with fail
      refine bodyPost_ret (v:=.tuple #[fP Mr none 0 0 none 0 0,.iface 325 (.pointer (some ⟨w6.heap.size,0,none⟩))]) (by simp [results,Tryz.results138,go_sem,z0,z1,z2,z3,fP,Mr]) rfl ⟨HBAD.out w6 F hE ET.out Iz qG wE Wv.out _ rfl,?_⟩
      exact (DD (Iz.trans (KV.mono Iz.size)) (Nat.le_refl _) (.int .i64 0) (.bool false) (.slice none 0 0) (.slice none 0 0))
    · obtain rfl:F=0:=Classical.not_not.1 hE
      obtain ⟨x0,x1,x2,x3⟩:=XA.cells
      obtain ⟨r0,r1,r2,r3⟩:=Ev.cells
      obtain ⟨f0,f1,f2,f3⟩:=Ev.free
      obtain ⟨z0,z1,z2,z3⟩:=(Ev.put t lf (.slice Ak nk ck) (.slice Av nv cv)).cells
      have XC:=qh Iz
      clear Iz
      go_wp2_with fail
      refine bodyPost_ret (v:=.tuple #[.agg #[.int .i64 t,.bool lf,.slice Ak nk ck,.slice Av nv cv],.nilIface]) (by simp [results,Tryz.results138,go_sem,z0,z1,z2,z3]) rfl ⟨⟨_,_,rfl,?_,?_⟩,DD XC.out (Nat.le_refl _) (.int .i64 t) (.bool lf) (.slice Ak nk ck) (.slice Av nv cv)⟩
      · rw [if_pos PZ.out]
        have hi:=HNI.out
        rw [if_pos (OO.out (by first|trivial|rfl))] at hi
        refine hi.keep (fun b hb=>⟨by have:=hb.1;omega,by have:=hb.2;have:=mP.out.size;simp [World.setCell];omega⟩) (fun b o hb=>?_)
        rw [DN (by have:=hb.1;omega) (.int .i64 t) (.bool lf) (.slice Ak nk ck) (.slice Av nv cv)]
        exact mP.out.cell (p:=⟨b,o,none⟩) hb.2
      · rw [PZ.out]
        exact CJ.F4
end
section
open Go.RowKit
attribute [local go_sem] Oper.semAt_some
theorem Gv.open_ {w w':World} {bs:List UInt8} {no tree:Int} {e:Ending} (h:Gv w bs no tree e w'):∃ t lf Ak nk ck Av nv cv ev,e=.returned (.tuple #[.agg #[.int .i64 t,.bool lf,.slice Ak nk ck,.slice Av nv cv],ev]) ∧
 Hid (Bp w' (C9 w.heap.size w'.heap.size) (.agg #[.int .i64 t,.bool lf,.slice Ak nk ck,.slice Av nv cv]) (if AZ bs no tree=0 then nodeAt bs no else Mr))∧Hid (CJ w' (FB w' w.heap.size) ev ⟨[no],AZ bs no tree⟩):=by
 obtain ⟨v,ev,rfl,hn,he⟩:=h
 obtain ⟨Ak,nk,ck,Av,nv,cv,rfl⟩:=hn.open_
 exact ⟨_,_,Ak,nk,ck,Av,nv,cv,ev,rfl,hn,he⟩
set_option maxRecDepth 100000 in
theorem Kw (w:World) (S:Nat→Prop) (a:Nat) (bs:List UInt8) (no tree:Int) (hS:∀ b,S b→b<w.heap.size) (h:Cj w S a bs) (hl:bs.length≤140737488355328) :
 Calls Tryz.prog 80 #[.pointer (some ⟨a,0,none⟩),.int .i64 no,.int .i64 tree] w fun e w'=>Gv w bs no tree e w'∧Below w.heap.size w w':=by
 have hx:=AP.new w #[.int .i64 tree] 3
 have hB1:Below w.heap.size w (w.alloc (.cells #[.int .i64 tree] 3)):=(Below.refl _ _).alloc (Nat.le_refl _) _
 have hr2:AU ((w.alloc (.cells #[.int .i64 tree] 3)).alloc (.cells #[.int .i64 0,.bool false,.slice none 0 0,.slice none 0 0] 173)) (w.heap.size+1) 0 false (.slice none 0 0) (.slice none 0 0):=by
  have:=heap_alloc_new (w.alloc (.cells #[.int .i64 tree] 3)) (.cells #[.int .i64 0,.bool false,.slice none 0 0,.slice none 0 0] 173)
  rw [World.size_alloc] at this
  exact this
 have hB2:Below w.heap.size w ((w.alloc (.cells #[.int .i64 tree] 3)).alloc (.cells #[.int .i64 0,.bool false,.slice none 0 0,.slice none 0 0] 173)):=hB1.alloc hB1.size _
 have ht2:((w.alloc (.cells #[.int .i64 tree] 3)).alloc (.cells #[.int .i64 0,.bool false,.slice none 0 0,.slice none 0 0] 173)).cell? ⟨w.heap.size,0,none⟩=some (.int .i64 tree):=(World.cell?_of_block (a:=⟨w.heap.size,0,none⟩) (Below.heap_alloc _ _ _ hx.lt)).trans (hx.at 0 _ rfl)
 go_enter Tryz.func80,Tryz.ntmps80
 go_upto_region 1 with fail
 generalize (w.alloc (.cells #[.int .i64 tree] 3)).alloc (.cells #[.int .i64 0,.bool false,.slice none 0 0,.slice none 0 0] 173)=w2 at *
 have hlt2:w.heap.size<w2.heap.size:=by have:=hr2.lt;omega
 have HR:=qh (U6 w2 S a w.heap.size bs no tree (fun b hb=>Nat.lt_of_lt_of_le (hS b hb) hB2.size) (h.below hB2 hS) hl hlt2 ht2)
 have HR2:=qh hr2
 have HB2:=qh hB2
 clear hx hB1 hr2 hB2 ht2 h
 go_wp2_with (go_at_call 138;refine HR.out.mono ?_;rintro e w3 ⟨hnr,hB3⟩;obtain ⟨t,lf,Ak,nk,ck,Av,nv,cv,ev,rfl,HN,HE⟩:=hnr.open_;have hr3:=HR2.out.below hB3 HR2.out.lt;have HB3:=qh hB3;obtain ⟨r0,r1,r2,r3⟩:=hr3.cells;obtain ⟨f0,f1,f2,f3⟩:=hr3.free;obtain ⟨z0,z1,z2,z3⟩:=(hr3.put t lf (.slice Ak nk ck) (.slice Av nv cv)).cells;clear hnr hB3)
 have hl1:=HR2.out.lt
 refine bodyPost_ret (v:=.tuple #[.agg #[.int .i64 t,.bool lf,.slice Ak nk ck,.slice Av nv cv],ev]) (by simp [results,Tryz.results80,go_sem,z0,z1,z2,z3]) rfl ⟨⟨_,_,rfl,?_,?_⟩,DD (HB2.out.trans (HB3.out.mono HB2.out.size)) (Nat.le_succ _) (.int .i64 t) (.bool lf) (.slice Ak nk ck) (.slice Av nv cv)⟩
 · exact HN.out.keep (fun b hb=>⟨by have:=hb.1;omega,by have:=hb.2;simpa [World.setCell] using this⟩) (fun b o hb=>DN (by have:=hb.1;omega) (.int .i64 t) (.bool lf) (.slice Ak nk ck) (.slice Av nv cv))
 · have hg:w.heap.size+1<w2.heap.size:=hl1
   have hne:∀ b,w2.heap.size≤b→b≠w.heap.size+1:=fun b hb=>by omega
   exact HE.out.keep (fun b hb=>⟨by have:=hb.1;omega,by obtain ⟨cs,h⟩:=hb.2;exact ⟨cs,((((Below.heap_setCell _ _ _ _ (hne b hb.1)).trans (Below.heap_setCell _ _ _ _ (hne b hb.1))).trans (Below.heap_setCell _ _ _ _ (hne b hb.1))).trans (Below.heap_setCell _ _ _ _ (hne b hb.1))).trans h⟩⟩) (fun b o hb=>DN (by have:=hb.1;omega) (.int .i64 t) (.bool lf) (.slice Ak nk ck) (.slice Av nv cv))
end
end Go.Proofs.YtpenklpdjpkigaaGreat
