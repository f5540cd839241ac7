/- A part of the proof: WBlkS2. -/
import Derived.Test.YtpenklpdjpkigaaGreatX18
import Derived.Test.YtpenklpdjpkigaaGreatX1
import Derived.Test.YtpenklpdjpkigaaGreatY1
set_option maxHeartbeats 6400000
set_option linter.unusedVariables false
set_option linter.unusedSimpArgs false
namespace Go.Proofs.YtpenklpdjpkigaaGreat
section
open Go.RowKit Go.Shelf
attribute [local go_sem] Oper.semAt_some
def Cb (bs:List UInt8):Int:=if CQ bs 1 0≠0 then CQ bs 1 0 else FC (bs.length / 256) (Bz bs 0)
def CO (bs:List UInt8):Nl:=if Cb bs=0 then EF (Bz bs 0) else LB
def Ig (w:World) (bs:List UInt8) (e:Ending) (w':World):Prop:=∃ ev,e=.returned (.tuple #[IW (CO bs),ev])∧CJ w' (FB w' w.heap.size) ev ⟨[0],Cb bs⟩
theorem Ig.bad {w:World} {bs:List UInt8} (w1:World) (E:Int) (hE:E≠0) (h:Cb bs=E) (hw:w.heap.size<w1.heap.size) (wE w9:World) (Gd:wE=w1.drew.alloc (.cells #[.int .i64 0,.iface 88 (.int .i64 E)] 327)) (h9:Touch (fun x=>x=w.heap.size) wE w9) :
 Ig w bs (.returned (.tuple #[.agg #[.int .i64 0,.int .i64 0,.int .i64 0,.int .i64 0,.int .i64 0,.int .i64 0,.int .i64 0,.int .i64 0,.int .i64 0,.int .i64 0,.int .i64 0],.iface 325 (.pointer (some ⟨w1.heap.size,0,none⟩))])) w9:=by
 refine ⟨.iface 325 (.pointer (some ⟨w1.heap.size,0,none⟩)),?_,?_⟩
 · unfold CO
   rw [h,if_neg hE]
   rfl
 · rw [h]
   have hi:=Sd w1.drew 0 E hE (fun b=>b=w1.heap.size) rfl
   rw [← Gd] at hi
   have hs:wE.heap.size=w1.heap.size+1:=by rw [Gd,World.size_alloc];rfl
   have I6:wE.heap[w1.heap.size]? = some (.cells #[.int .i64 0,.iface 88 (.int .i64 E)] 327 (0,0)):=by rw [Gd];exact heap_alloc_new w1.drew _
   refine hi.keep (fun b hb=>?_) (Ap h9 (fun b hb=>⟨by omega,fun e=>by omega⟩))
   subst hb
   exact ⟨by omega,_,(h9.block (by omega) (fun e=>by omega)).trans I6⟩
set_option maxRecDepth 100000 in
theorem Te (w:World) (S:Nat→Prop) (a gm:Nat) (bs:List UInt8) (hS:∀ b,S b→b<w.heap.size) (h:Cj w S a bs) (hl:bs.length≤140737488355328) (hgm:gm<w.heap.size) (hm:w.cell? ⟨gm,0,none⟩=some (.pointer (some ⟨a,0,none⟩))) :
 Calls Tryz.prog 52 #[.pointer (some ⟨a,0,none⟩),.int .i64 0,.int .i64 1,.func (.func 53) #[] #[.pointer (some ⟨gm,0,none⟩)]] w fun e w'=>Ig w bs e w'∧Below w.heap.size w w':=by
 obtain ⟨hr2,hz2,hB2,hsz2⟩:=AP.two w Eo Eo 69 69
 generalize hw2:(w.alloc (.cells Eo 69)).alloc (.cells Eo 69)=w2 at *
 have HW2:=qh hw2
 have h2:=h.below hB2 hS
 have hS2:∀ b,S b→b<w2.heap.size:=fun b hb=>Nat.lt_of_lt_of_le (hS b hb) hB2.size
 have ha:a<w.heap.size:=hS a h.1
 have Ms:Hid (∀ w' vb,Below w.heap.size w w'→AX w' (fun b=>b<w'.heap.size) vb (Bz bs 0)→(Bz bs 0).length=244→Calls Tryz.prog 53 #[vb,.pointer (some ⟨gm,0,none⟩)] w' fun e w''=>e=.returned (.tuple #[IW (Dw (Bz bs 0)).1,.int .i64 (FC (bs.length / 256) (Bz bs 0))])∧Below w'.heap.size w' w''):=fun w' vb hB hb hbl=>by
  obtain ⟨_,A,c,hc,_,_⟩:=h
  exact Xh w' (fun b=>b<w'.heap.size) vb (Bz bs 0) gm a bs.length c A (fun _ h=>h) hb (by omega) (Nat.lt_of_lt_of_le hgm hB.size) (AQ hB hgm hm) (Nat.lt_of_lt_of_le ha hB.size) (AQ hB ha hc) hl
 have zN:=qh (fun w' vb l (hb:AX w' (fun b=>b<w'.heap.size) vb l) (hl:l.length≤140737488355328)=>MF w' (fun b=>b<w'.heap.size) vb l 1 0 (fun _ h=>h) hb hl)
 have HZ2:=qh hz2
 have HR2:=qh hr2
 have TC:=qh hB2
 clear hw2 hz2 hr2 hB2 hsz2 hm h ha
 go_enter Tryz.func52,Tryz.ntmps52
 go_upto_region 2 with fail
 rw [HW2.out]
 obtain ⟨gz,gW⟩:∃ gz,w.heap.size+1=gz:=⟨_,rfl⟩
 rw [gW] at HZ2 ⊢
 have hgz:w.heap.size≠gz:=by omega
 clear gW HW2
 cases hB0:GA bs 0 with
 | false =>
  have ET:Hid (Cb bs=3):=by show _=_;unfold Cb CQ;rw [if_pos hB0,if_pos (by decide)]
  have Lc:=qh (UZ w2 S a 0 bs h2 hl (PY hB0))
  have hE:(3:Int)≠0:=by decide
  clear hB0 h2
  go_upto_region 4 with (go_at_call 91;(with_reducible refine Lc.out.mono ?_);rintro e w3 ⟨rfl,hB3⟩)
  have hrw3:=HR2.out.below hB3 HR2.out.lt
  have Gp:=HZ2.out.below hB3 HZ2.out.lt
  have hBw3:=TC.out.trans (hB3.mono TC.out.size)
  have qD:=hrw3.lt
  clear hB3
  refine AF (T:=fun _=>false) (S:=fun w'=>AP w' gz Eo 69) (by kernel_rfl) (Gp) (fun hHeld=>?_)
  refine qf 0 23 rfl rfl hHeld (by intro w hSw;have x0:=hSw.at 0 _ rfl;have x1:=hSw.at 1 _ rfl;have x2:=hSw.at 2 _ rfl;have x3:=hSw.at 3 _ rfl;have x4:=hSw.at 4 _ rfl;have x5:=hSw.at 5 _ rfl;have x6:=hSw.at 6 _ rfl;have x7:=hSw.at 7 _ rfl;have x8:=hSw.at 8 _ rfl;have x9:=hSw.at 9 _ rfl;have Yu:=hSw.at 10 _ rfl;go_simp;(try with_reducible rfl)) ?_
  refine qs 1 24 hHeld ?_
  refine qs 2 25 hHeld ?_
  refine qs 3 26 hHeld ?_
  refine qo 4 fun K hK=>?_
  go_simp
  refine (Iw w3.drew 0 3 hE).mono ?_
  rintro e wE ⟨rfl,Gd⟩
  have KV:Below w3.heap.size w3 wE:=by (rw [Gd];exact ((Below.refl _ _).drew.alloc (Nat.le_refl _) _))
  have Ci:=hrw3.below KV hrw3.lt
  have y0:=Ci.at 0 _ rfl
  have y1:=Ci.at 1 _ rfl
  have y2:=Ci.at 2 _ rfl
  have y3:=Ci.at 3 _ rfl
  have y4:=Ci.at 4 _ rfl
  have y5:=Ci.at 5 _ rfl
  have y6:=Ci.at 6 _ rfl
  have y7:=Ci.at 7 _ rfl
  have y8:=Ci.at 8 _ rfl
  have y9:=Ci.at 9 _ rfl
  have bF:=Ci.at 10 _ rfl
  have z0:=Ci.free 0
  have z1:=Ci.free 1
  have z2:=Ci.free 2
  have z3:=Ci.free 3
  have z4:=Ci.free 4
  have z5:=Ci.free 5
  have z6:=Ci.free 6
  have z7:=Ci.free 7
  have z8:=Ci.free 8
  have z9:=Ci.free 9
  have kZ:=Ci.free 10
  have Wv:=qh Gd
  clear Gd
  have hHeld:=(show AP wE gz Eo 69 from Gp.below KV Gp.lt)
  refine hK.out _ _ (fun _=>hHeld) (fun _=>?_)
  clear hK K
  (try simp only [Act.put,qS])
  refine qo 5 fun K hK=>?_
  go_simp
  have Bi:=(show AP _ gz Eo 69 from ((Gj wE w.heap.size (.int .i64 0) (.int .i64 0) (.int .i64 0) (.int .i64 0) (.int .i64 0) (.int .i64 0) (.int .i64 0) (.int .i64 0) (.int .i64 0) (.int .i64 0) (.int .i64 0)).block hHeld.lt (fun e=>hgz e.symm)).trans hHeld)
  clear hHeld
  have hHeld:=Bi
  clear Bi
  refine hK.out _ _ (fun _=>hHeld) (fun _=>?_)
  clear hK K
  (try simp only [Act.put,qS])
  refine qs 6 9 hHeld ?_
  refine qd ?_
  go_wp2_with fail
  obtain ⟨w9,ew,hbx,htx⟩:=FJ Ci
  rw [ew]
  have r0:=hbx.at 0 _ rfl
  have r1:=hbx.at 1 _ rfl
  have r2:=hbx.at 2 _ rfl
  have r3:=hbx.at 3 _ rfl
  have r4:=hbx.at 4 _ rfl
  have r5:=hbx.at 5 _ rfl
  have r6:=hbx.at 6 _ rfl
  have r7:=hbx.at 7 _ rfl
  have r8:=hbx.at 8 _ rfl
  have r9:=hbx.at 9 _ rfl
  have QI:=hbx.at 10 _ rfl
  exact bodyPost_ret (v:=.tuple #[.agg #[.int .i64 0,.int .i64 0,.int .i64 0,.int .i64 0,.int .i64 0,.int .i64 0,.int .i64 0,.int .i64 0,.int .i64 0,.int .i64 0,.int .i64 0],.iface 325 (.pointer (some ⟨w3.heap.size,0,none⟩))]) (by simp [results,Tryz.results52,go_sem,r0,r1,r2,r3,r4,r5,r6,r7,r8,r9,QI]) rfl ⟨Ig.bad w3 3 hE ET.out (by omega) wE w9 Wv.out htx,((hBw3.trans (KV.mono hBw3.size)).trans ((htx.weak (R':=fun y=>w.heap.size≤y) (fun y e=>by omega)).below (fun x h=>h) (by have:=KV.size;omega)))⟩
 | true =>
  obtain ⟨k,hk0,hk⟩:=Rm hB0
  obtain rfl:k=0:=by omega
  have HOA:Hid (CQ bs 1 0=DW (DY bs 0) 1 0):=by show _=_;unfold CQ;rw [if_neg (by rw [hB0];simp)];rfl
  have hbody:Bz bs 0=Dl (DY bs 0):=rfl
  have hlb:(DY bs 0).length=256:=U5 hk
  have qE:(Bz bs 0).length=244:=by rw [hbody];exact GZ hlb
  have gX:Hid (Cb bs=if DW (DY bs 0) 1 0≠0 then DW (DY bs 0) 1 0 else FC (bs.length / 256) (Bz bs 0)):=by show _=_;unfold Cb;rw [HOA.out]
  have hrd:=YG w2 S a 0 bs hS2 h2 hl hk
  rw [show (((0:Nat):Int))=(0:Int) from rfl] at hrd
  have Lc:=qh hrd
  have We:=qh hbody
  have Uv:=qh hlb
  have xn:=qh qE
  clear hB0 h2 hbody hlb qE hrd hk0
  go_upto_region 5 with (go_at_call 91;(with_reducible refine Lc.out.mono ?_);rintro e w3 ⟨A3,c3,rfl,hown3,hB3⟩;have YS:=qh hown3;clear hown3)
  have hrw3:=HR2.out.below hB3 HR2.out.lt
  have Gp:=HZ2.out.below hB3 HZ2.out.lt
  have hBw3:=TC.out.trans (hB3.mono TC.out.size)
  have hb3:AX w3 (fun b=>b<w3.heap.size) (.slice A3 256 c3) (DY bs 0):=by
   have:=(CF.own (enc:=Au) (d:=(0:UInt8)) D8 YS.out (by omega)).sub (S':=fun b=>b<w3.heap.size) (AA _) (fun b hb=>hb.2)
   exact this
  have hop:=zN.out w3 _ _ hb3 (by rw [Uv.out];omega)
  have uD:Hid (∀ v w',Bt w3 (DW (DY bs 0) 1 0) (DY bs 0) v w'→DW (DY bs 0) 1 0=0→AX w' (fun b=>b<w'.heap.size) v (Bz bs 0)):=fun v w' h h0=>by
   unfold Bt at h
   rw [if_pos h0] at h
   rw [We.out]
   exact h.sub (AA _) (fun b hb=>hb.2)
  generalize DW (DY bs 0) 1 0=E at *
  have gY:=qh hop
  clear hop hb3 hB3 YS
  by_cases hE:E≠0
  · have ET:Hid (Cb bs=E):=by show _=_;rw [gX.out,if_pos hE]
    have Nu:Hid (∀ v w',Bt w3 E (DY bs 0) v w'→v=.slice none 0 0):=fun v w' h=>by unfold Bt at h;rwa [if_neg hE] at h
    have mO:((E:Int) != 0)=true:=by rw [bne_iff_ne];exact hE
    go_upto_region 7 with (go_at_call 93;(with_reducible refine gY.out.mono ?_);rintro e w4 ⟨⟨v4,rfl,hv4⟩,hB4⟩;obtain rfl:=Nu.out _ _ hv4;clear hv4)
    have Ww:=hrw3.below hB4 hrw3.lt
    have Wx:=Gp.below hB4 Gp.lt
    have Z9:=hBw3.trans (hB4.mono hBw3.size)
    have qF:=Ww.lt
    clear hB4 hrw3 Gp hBw3
    refine AF (T:=fun _=>false) (S:=fun w'=>AP w' gz Eo 69) (by kernel_rfl) (Wx) (fun hHeld=>?_)
    refine qf 0 37 rfl rfl hHeld (by intro w hSw;have x0:=hSw.at 0 _ rfl;have x1:=hSw.at 1 _ rfl;have x2:=hSw.at 2 _ rfl;have x3:=hSw.at 3 _ rfl;have x4:=hSw.at 4 _ rfl;have x5:=hSw.at 5 _ rfl;have x6:=hSw.at 6 _ rfl;have x7:=hSw.at 7 _ rfl;have x8:=hSw.at 8 _ rfl;have x9:=hSw.at 9 _ rfl;have Yu:=hSw.at 10 _ rfl;go_simp;(try with_reducible rfl)) ?_
    refine qs 1 38 hHeld ?_
    refine qs 2 39 hHeld ?_
    refine qs 3 40 hHeld ?_
    refine qo 4 fun K hK=>?_
    go_simp
    refine (Iw w4.drew 0 E hE).mono ?_
    rintro e wE ⟨rfl,Gd⟩
    have KV:Below w4.heap.size w4 wE:=by (rw [Gd];exact ((Below.refl _ _).drew.alloc (Nat.le_refl _) _))
    have Ci:=Ww.below KV Ww.lt
    have y0:=Ci.at 0 _ rfl
    have y1:=Ci.at 1 _ rfl
    have y2:=Ci.at 2 _ rfl
    have y3:=Ci.at 3 _ rfl
    have y4:=Ci.at 4 _ rfl
    have y5:=Ci.at 5 _ rfl
    have y6:=Ci.at 6 _ rfl
    have y7:=Ci.at 7 _ rfl
    have y8:=Ci.at 8 _ rfl
    have y9:=Ci.at 9 _ rfl
    have bF:=Ci.at 10 _ rfl
    have z0:=Ci.free 0
    have z1:=Ci.free 1
    have z2:=Ci.free 2
    have z3:=Ci.free 3
    have z4:=Ci.free 4
    have z5:=Ci.free 5
    have z6:=Ci.free 6
    have z7:=Ci.free 7
    have z8:=Ci.free 8
    have z9:=Ci.free 9
    have kZ:=Ci.free 10
    have Wv:=qh Gd
    clear Gd
    have hHeld:=(show AP wE gz Eo 69 from Wx.below KV Wx.lt)
    refine hK.out _ _ (fun _=>hHeld) (fun _=>?_)
    clear hK K
    (try simp only [Act.put,qS])
    refine qo 5 fun K hK=>?_
    go_simp
    have Bi:=(show AP _ gz Eo 69 from ((Gj wE w.heap.size (.int .i64 0) (.int .i64 0) (.int .i64 0) (.int .i64 0) (.int .i64 0) (.int .i64 0) (.int .i64 0) (.int .i64 0) (.int .i64 0) (.int .i64 0) (.int .i64 0)).block hHeld.lt (fun e=>hgz e.symm)).trans hHeld)
    clear hHeld
    have hHeld:=Bi
    clear Bi
    refine hK.out _ _ (fun _=>hHeld) (fun _=>?_)
    clear hK K
    (try simp only [Act.put,qS])
    refine qs 6 9 hHeld ?_
    refine qd ?_
    go_wp2_with fail
    obtain ⟨w9,ew,hbx,htx⟩:=FJ Ci
    rw [ew]
    have r0:=hbx.at 0 _ rfl
    have r1:=hbx.at 1 _ rfl
    have r2:=hbx.at 2 _ rfl
    have r3:=hbx.at 3 _ rfl
    have r4:=hbx.at 4 _ rfl
    have r5:=hbx.at 5 _ rfl
    have r6:=hbx.at 6 _ rfl
    have r7:=hbx.at 7 _ rfl
    have r8:=hbx.at 8 _ rfl
    have r9:=hbx.at 9 _ rfl
    have QI:=hbx.at 10 _ rfl
    exact bodyPost_ret (v:=.tuple #[.agg #[.int .i64 0,.int .i64 0,.int .i64 0,.int .i64 0,.int .i64 0,.int .i64 0,.int .i64 0,.int .i64 0,.int .i64 0,.int .i64 0,.int .i64 0],.iface 325 (.pointer (some ⟨w4.heap.size,0,none⟩))]) (by simp [results,Tryz.results52,go_sem,r0,r1,r2,r3,r4,r5,r6,r7,r8,r9,QI]) rfl ⟨Ig.bad w4 E hE ET.out (by omega) wE w9 Wv.out htx,((Z9.trans (KV.mono Z9.size)).trans ((htx.weak (R':=fun y=>w.heap.size≤y) (fun y e=>by omega)).below (fun x h=>h) (by have:=KV.size;omega)))⟩
  · obtain rfl:E=0:=Classical.not_not.1 hE
    have PZ:Hid (Cb bs=FC (bs.length / 256) (Bz bs 0)):=by show _=_;rw [gX.out,if_neg (by simp)]
    have Ql:=qh (fun w4 v4 (hB4:Below w3.heap.size w3 w4) (hv:Bt w3 0 (DY bs 0) v4 w4)=>Ms.out w4 v4 (hBw3.trans (hB4.mono hBw3.size)) (uD.out _ _ hv rfl) xn.out)
    have Nu:Hid (∀ v w',Bt w3 0 (DY bs 0) v w'→∃ A n c,v=.slice A n c):=fun v w' h=>by obtain ⟨A,c,e,_⟩:=uD.out _ _ h rfl;exact ⟨A,_,c,e⟩
    obtain ⟨F,hF⟩:∃ F,FC (bs.length / 256) (Bz bs 0)=F:=⟨_,rfl⟩
    obtain ⟨s,hs⟩:∃ s,(Dw (Bz bs 0)).1=s:=⟨_,rfl⟩
    rw [hF] at PZ
    rw [hF,hs] at Ql
    have OO:Hid (F=0→s=EF (Bz bs 0)):=fun h0=>by
     rw [← hF] at h0
     unfold FC at h0
     rcases LW (Bz bs 0) with ⟨h1,h2⟩|⟨h1,h2⟩
     · rw [← hs,h2]
     · rw [h1,if_pos (by decide)] at h0;cases h0
    clear Ms hF hs uD gX
    go_upto_region 9 with (first|(go_at_call 93;(with_reducible refine gY.out.mono ?_);rintro e w4 ⟨⟨v4,rfl,hv4⟩,hB4⟩;have Nv:=qh (Ql.out w4 v4 hB4 hv4);obtain ⟨A4,n4,c4,rfl⟩:=Nu.out _ _ hv4;clear hv4)|(go_at_call 53;(with_reducible refine Nv.out.mono ?_);rintro e w5 ⟨rfl,BS⟩))
    have Nt:=hBw3.trans ((hB4.trans (BS.mono hB4.size)).mono hBw3.size)
    have Wy:=(hrw3.below hB4 hrw3.lt).below BS (hrw3.below hB4 hrw3.lt).lt
    have Wz:=(Gp.below hB4 Gp.lt).below BS (Gp.below hB4 Gp.lt).lt
    have EG:Below w5.heap.size w5 (w5.alloc (.cells (Gu s) 69)):=(Below.refl _ _).alloc (Nat.le_refl _) _
    have XA:=AP.new w5 (Gu s) 69
    generalize w5.alloc (.cells (Gu s) 69)=w6 at *
    have Ev:=Wy.below EG Wy.lt
    have XB:=Wz.below EG Wz.lt
    have Iz:=Nt.trans (EG.mono Nt.size)
    have qG:=Ev.lt
    clear hB4 BS EG hrw3 Gp hBw3 Wy Wz Nt
    by_cases hE:F≠0
    · have ET:Hid (Cb bs=F):=PZ
      have hFb:((F:Int) != 0)=true:=by rw [bne_iff_ne];exact hE
      clear XA PZ OO
      go_upto_region 10 with fail
      refine AF (T:=fun _=>false) (S:=fun w'=>AP w' gz Eo 69) (by kernel_rfl) (XB) (fun hHeld=>?_)
      refine qf 0 50 rfl rfl hHeld (by intro w hSw;have x0:=hSw.at 0 _ rfl;have x1:=hSw.at 1 _ rfl;have x2:=hSw.at 2 _ rfl;have x3:=hSw.at 3 _ rfl;have x4:=hSw.at 4 _ rfl;have x5:=hSw.at 5 _ rfl;have x6:=hSw.at 6 _ rfl;have x7:=hSw.at 7 _ rfl;have x8:=hSw.at 8 _ rfl;have x9:=hSw.at 9 _ rfl;have Yu:=hSw.at 10 _ rfl;go_simp;(try with_reducible rfl)) ?_
      refine qs 1 51 hHeld ?_
      refine qs 2 52 hHeld ?_
      refine qs 3 53 hHeld ?_
      refine qo 4 fun K hK=>?_
      go_simp
      refine (Iw w6.drew 0 F hE).mono ?_
      rintro e wE ⟨rfl,Gd⟩
      have KV:Below w6.heap.size w6 wE:=by (rw [Gd];exact ((Below.refl _ _).drew.alloc (Nat.le_refl _) _))
      have Ci:=Ev.below KV Ev.lt
      have y0:=Ci.at 0 _ rfl
      have y1:=Ci.at 1 _ rfl
      have y2:=Ci.at 2 _ rfl
      have y3:=Ci.at 3 _ rfl
      have y4:=Ci.at 4 _ rfl
      have y5:=Ci.at 5 _ rfl
      have y6:=Ci.at 6 _ rfl
      have y7:=Ci.at 7 _ rfl
      have y8:=Ci.at 8 _ rfl
      have y9:=Ci.at 9 _ rfl
      have bF:=Ci.at 10 _ rfl
      have z0:=Ci.free 0
      have z1:=Ci.free 1
      have z2:=Ci.free 2
      have z3:=Ci.free 3
      have z4:=Ci.free 4
      have z5:=Ci.free 5
      have z6:=Ci.free 6
      have z7:=Ci.free 7
      have z8:=Ci.free 8
      have z9:=Ci.free 9
      have kZ:=Ci.free 10
      have Wv:=qh Gd
      clear Gd
      have hHeld:=(show AP wE gz Eo 69 from XB.below KV XB.lt)
      refine hK.out _ _ (fun _=>hHeld) (fun _=>?_)
      clear hK K
      (try simp only [Act.put,qS])
      refine qo 5 fun K hK=>?_
      go_simp
      have Bi:=(show AP _ gz Eo 69 from ((Gj wE w.heap.size (.int .i64 0) (.int .i64 0) (.int .i64 0) (.int .i64 0) (.int .i64 0) (.int .i64 0) (.int .i64 0) (.int .i64 0) (.int .i64 0) (.int .i64 0) (.int .i64 0)).block hHeld.lt (fun e=>hgz e.symm)).trans hHeld)
      clear hHeld
      have hHeld:=Bi
      clear Bi
      refine hK.out _ _ (fun _=>hHeld) (fun _=>?_)
      clear hK K
      (try simp only [Act.put,qS])
      refine qs 6 9 hHeld ?_
      refine qd ?_
      go_wp2_with fail
      obtain ⟨w9,ew,hbx,htx⟩:=FJ Ci
      rw [ew]
      have r0:=hbx.at 0 _ rfl
      have r1:=hbx.at 1 _ rfl
      have r2:=hbx.at 2 _ rfl
      have r3:=hbx.at 3 _ rfl
      have r4:=hbx.at 4 _ rfl
      have r5:=hbx.at 5 _ rfl
      have r6:=hbx.at 6 _ rfl
      have r7:=hbx.at 7 _ rfl
      have r8:=hbx.at 8 _ rfl
      have r9:=hbx.at 9 _ rfl
      have QI:=hbx.at 10 _ rfl
      exact bodyPost_ret (v:=.tuple #[.agg #[.int .i64 0,.int .i64 0,.int .i64 0,.int .i64 0,.int .i64 0,.int .i64 0,.int .i64 0,.int .i64 0,.int .i64 0,.int .i64 0,.int .i64 0],.iface 325 (.pointer (some ⟨w6.heap.size,0,none⟩))]) (by simp [results,Tryz.results52,go_sem,r0,r1,r2,r3,r4,r5,r6,r7,r8,r9,QI]) rfl ⟨Ig.bad w6 F hE ET.out (by omega) wE w9 Wv.out htx,((Iz.trans (KV.mono Iz.size)).trans ((htx.weak (R':=fun y=>w.heap.size≤y) (fun y e=>by omega)).below (fun x h=>h) (by have:=KV.size;omega)))⟩
    · obtain rfl:F=0:=Classical.not_not.1 hE
      have x0:=XA.at 0 _ rfl
      have x1:=XA.at 1 _ rfl
      have x2:=XA.at 2 _ rfl
      have x3:=XA.at 3 _ rfl
      have x4:=XA.at 4 _ rfl
      have x5:=XA.at 5 _ rfl
      have x6:=XA.at 6 _ rfl
      have x7:=XA.at 7 _ rfl
      have x8:=XA.at 8 _ rfl
      have x9:=XA.at 9 _ rfl
      have Yu:=XA.at 10 _ rfl
      have y0:=Ev.at 0 _ rfl
      have y1:=Ev.at 1 _ rfl
      have y2:=Ev.at 2 _ rfl
      have y3:=Ev.at 3 _ rfl
      have y4:=Ev.at 4 _ rfl
      have y5:=Ev.at 5 _ rfl
      have y6:=Ev.at 6 _ rfl
      have y7:=Ev.at 7 _ rfl
      have y8:=Ev.at 8 _ rfl
      have y9:=Ev.at 9 _ rfl
      have bF:=Ev.at 10 _ rfl
      have z0:=Ev.free 0
      have z1:=Ev.free 1
      have z2:=Ev.free 2
      have z3:=Ev.free 3
      have z4:=Ev.free 4
      have z5:=Ev.free 5
      have z6:=Ev.free 6
      have z7:=Ev.free 7
      have z8:=Ev.free 8
      have z9:=Ev.free 9
      have kZ:=Ev.free 10
      obtain ⟨w9,ew,hbx,htx⟩:=Fp Ev s
      have oP:=qh ew
      have XC:=qh Iz
      have DU:=qh hbx
      have Wh:=qh htx
      clear Iz ew hbx htx
      go_wp2_with fail
      rw [oP.out]
      have r0:=DU.out.at 0 _ rfl
      have r1:=DU.out.at 1 _ rfl
      have r2:=DU.out.at 2 _ rfl
      have r3:=DU.out.at 3 _ rfl
      have r4:=DU.out.at 4 _ rfl
      have r5:=DU.out.at 5 _ rfl
      have r6:=DU.out.at 6 _ rfl
      have r7:=DU.out.at 7 _ rfl
      have r8:=DU.out.at 8 _ rfl
      have r9:=DU.out.at 9 _ rfl
      have QI:=DU.out.at 10 _ rfl
      refine bodyPost_ret (v:=.tuple #[IW s,.nilIface]) (by simp [results,Tryz.results52,go_sem,r0,r1,r2,r3,r4,r5,r6,r7,r8,r9,QI]) rfl ⟨⟨.nilIface,?_,?_⟩,XC.out.trans ((Wh.out.weak (R':=fun y=>w.heap.size≤y) (fun y e=>by omega)).below (fun x h=>h) (by omega))⟩
      · unfold CO
        rw [if_pos PZ.out,OO.out (by first|trivial|rfl)]
      · rw [PZ.out]
        exact CJ.F4
set_option maxRecDepth 100000 in
theorem Hw (w:World) (S:Nat→Prop) (a:Nat) (bs:List UInt8) (hS:∀ b,S b→b<w.heap.size) (h:Cj w S a bs) (hl:bs.length≤140737488355328) :
 Calls Tryz.prog 27 #[.pointer (some ⟨a,0,none⟩)] w fun e w'=>Ig w bs e w'∧Below w.heap.size w w':=by
 obtain ⟨hm,hr,hB2,hsz⟩:=AP.two w #[.pointer (some ⟨a,0,none⟩)] Eo 24 69
 go_enter Tryz.func27,Tryz.ntmps27
 go_upto_region 1 with fail
 generalize (w.alloc (.cells #[.pointer (some ⟨a,0,none⟩)] 24)).alloc (.cells Eo 69)=w2 at *
 have m0:=hm.at 0 _ rfl
 have HR:=qh (Te w2 S a w.heap.size bs (fun b hb=>Nat.lt_of_lt_of_le (hS b hb) hB2.size) (h.below hB2 hS) hl hm.lt m0)
 have HR2:=qh hr
 have HB2:=qh hB2
 obtain ⟨s,hs⟩:∃ s,CO bs=s:=⟨_,rfl⟩
 have qR:=qh hs
 have HRX:Hid (Calls Tryz.prog 52 #[.pointer (some ⟨a,0,none⟩),.int .i64 0,.int .i64 1,.func (.func 53) #[] #[.pointer (some ⟨w.heap.size,0,none⟩)]] w2 fun e w'=>∃ ev,(e=.returned (.tuple #[IW s,ev])∧CJ w' (FB w' w2.heap.size) ev ⟨[0],Cb bs⟩)∧Below w2.heap.size w2 w'):=HR.out.mono fun e w' ⟨⟨ev,h1,h2⟩,h3⟩=>⟨ev,⟨by rw [h1,hs],h2⟩,h3⟩
 clear hm hr hB2 h hs HR
 go_wp2_with (go_at_call 52;(with_reducible refine HRX.out.mono ?_);rintro e w3 ⟨ev,⟨rfl,hie⟩,hB3⟩;have hr3:=HR2.out.below hB3 HR2.out.lt;have HB3:=qh hB3;have yL:=qh hie;have y0:=hr3.at 0 _ rfl;have y1:=hr3.at 1 _ rfl;have y2:=hr3.at 2 _ rfl;have y3:=hr3.at 3 _ rfl;have y4:=hr3.at 4 _ rfl;have y5:=hr3.at 5 _ rfl;have y6:=hr3.at 6 _ rfl;have y7:=hr3.at 7 _ rfl;have y8:=hr3.at 8 _ rfl;have y9:=hr3.at 9 _ rfl;have bF:=hr3.at 10 _ rfl;have z0:=hr3.free 0;have z1:=hr3.free 1;have z2:=hr3.free 2;have z3:=hr3.free 3;have z4:=hr3.free 4;have z5:=hr3.free 5;have z6:=hr3.free 6;have z7:=hr3.free 7;have z8:=hr3.free 8;have z9:=hr3.free 9;have kZ:=hr3.free 10;clear hie hB3)
 obtain ⟨w9,ew,hbx,htx⟩:=Fp hr3 s
 rw [ew]
 have r0:=hbx.at 0 _ rfl
 have r1:=hbx.at 1 _ rfl
 have r2:=hbx.at 2 _ rfl
 have r3:=hbx.at 3 _ rfl
 have r4:=hbx.at 4 _ rfl
 have r5:=hbx.at 5 _ rfl
 have r6:=hbx.at 6 _ rfl
 have r7:=hbx.at 7 _ rfl
 have r8:=hbx.at 8 _ rfl
 have r9:=hbx.at 9 _ rfl
 have QI:=hbx.at 10 _ rfl
 refine bodyPost_ret (v:=.tuple #[IW s,ev]) (by simp [results,Tryz.results27,go_sem,r0,r1,r2,r3,r4,r5,r6,r7,r8,r9,QI]) rfl ⟨⟨ev,by rw [qR.out],?_⟩,(HB2.out.trans (HB3.out.mono HB2.out.size)).trans ((htx.weak (R':=fun y=>w.heap.size≤y) (fun y e=>by omega)).below (fun x h=>h) (by have:=HB2.out.size;have:=HB3.out.size;omega))⟩
 refine yL.out.keep (fun b hb=>⟨by have:=hb.1;omega,?_⟩) (Ap htx (fun b hb=>⟨hb.lt,fun e=>by have:=hb.1;omega⟩))
 obtain ⟨h1,cs,h2⟩:=hb
 exact ⟨cs,(htx.block (Array.getElem?_eq_some_iff.1 h2).1 (fun e=>by omega)).trans h2⟩
end
end Go.Proofs.YtpenklpdjpkigaaGreat
