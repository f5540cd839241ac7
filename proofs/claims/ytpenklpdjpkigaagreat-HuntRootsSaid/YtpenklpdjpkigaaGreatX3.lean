/- A part of the proof: WRNode11. -/
import Derived.Test.YtpenklpdjpkigaaGreatX2
import Derived.Test.YtpenklpdjpkigaaGreatY1
set_option maxHeartbeats 6400000
set_option linter.unusedVariables false
set_option linter.unusedSimpArgs false
namespace Go.Proofs.YtpenklpdjpkigaaGreat
section
open Go.RowKit
attribute [local go_sem] Oper.semAt_some
theorem Gw (w:World) (b c:Int) (hc:c≠0):Calls Tryz.prog 58 #[.int .i64 b,.int .i64 c] w fun e w'=>(∃ A c',e=.returned (.agg #[.slice A 1 c',.int .i64 c])∧Aa w' (C9 w.heap.size w'.heap.size) (.slice A 1 c') [b])∧Below w.heap.size w w' :=
 (gN w b c).mono fun e w' ⟨⟨v,he,hr⟩,hB⟩=>by
  rw [KR b c hc] at hr
  obtain ⟨A,c',rfl,h⟩:=hr
  exact ⟨⟨A,c',he,h⟩,hB⟩
theorem YY {w:World} {g h:Nat} {a0 a1 a2 a3 b0 b1:Value} {T1 T2:TypeId} (h1:AP w g #[a0,a1,a2,a3] T1) (h2:AP w h #[b0,b1] T2) (hne:g≠h) (u0 u1 u2 u3 f0 f1:Value) :
 ∃ wF,(((((w.setCell ⟨g,0,none⟩ u0).setCell ⟨g,1,none⟩ u1).setCell ⟨g,2,none⟩ u2).setCell ⟨g,3,none⟩ u3).setCell ⟨h,0,none⟩ f0).setCell ⟨h,1,none⟩ f1=wF∧AP wF g #[u0,u1,u2,u3] T1∧AP wF h #[f0,f1] T2∧Touch (fun x=>x=g∨x=h) w wF:=by
 refine ⟨_,rfl,?_,?_,?_⟩
 · exact ((h1.sH u0 u1 u2 u3).far (Ne.symm hne) 0 f0).far (Ne.symm hne) 1 f1
 · exact ((((h2.far hne 0 u0).far hne 1 u1).far hne 2 u2).far hne 3 u3).UW f0 f1
 · exact ((O1 w g u0 u1 u2 u3).weak (R':=fun x=>x=g∨x=h) (fun x e=>.inl e)).trans ((Eh _ h f0 f1).weak (R':=fun x=>x=g∨x=h) (fun x e=>.inr e))
def MG (w:World) (bs:List UInt8) (no tree:Int) (e:Ending) (w':World):Prop:=∃ nv fv,e=.returned (.tuple #[nv,fv])∧Bp w' (C9 w.heap.size w'.heap.size) nv (if AZ bs no tree=0 then nodeAt bs no else Mr)∧RF w' (C9 w.heap.size w'.heap.size) fv (UB no ⟨[],AZ bs no tree⟩)
set_option maxRecDepth 100000 in
theorem U8 (w:World) (S:Nat→Prop) (a:Nat) (bs:List UInt8) (no tree:Int) (hS:∀ b,S b→b<w.heap.size) (h:Hq w S a bs) :
 Calls Tryz.prog 211 #[.pointer (some ⟨a,0,none⟩),.int .i64 no,.int .i64 tree] w fun e w'=>MG w bs no tree e w'∧Below w.heap.size w w':=by
 obtain ⟨h0,h1,hB,hz⟩:=AP.two w #[.int .i64 0,.bool false,.slice none 0 0,.slice none 0 0] #[.slice none 0 0,.int .i64 0] 173 78
 go_enter Tryz.func211,Tryz.ntmps211
 go_upto_region 1 with fail
 generalize (w.alloc (.cells #[.int .i64 0,.bool false,.slice none 0 0,.slice none 0 0] 173)).alloc (.cells #[.slice none 0 0,.int .i64 0] 78)=w1 at *
 have hw1:w.heap.size+1<w1.heap.size:=by omega
 have J2:=qh (aD w1 S a bs no 2 (fun b hb=>by have:=hS b hb;omega) (h.below hB hS))
 have HB:=qh hB
 have H0:=qh h0
 have H1:=qh h1
 have HAE:Hid (CQ bs 2 no≠0→AZ bs no tree=CQ bs 2 no):=fun h=>by unfold AZ;rw [if_pos h]
 have xu:Hid (CQ bs 2 no=0→AZ bs no tree=UR (Dl (DY bs no.toNat)) tree):=fun h=>by unfold AZ;rw [if_neg (by rw [h];simp)];rfl
 have TD:Hid (nodeAt bs no=Du (Dl (DY bs no.toNat))):=rfl
 have HLEN:Hid (CQ bs 2 no=0→(Dl (DY bs no.toNat)).length=244):=fun h=>by
  refine GZ ?_
  unfold CQ at h
  by_cases hb:GA bs no=false
  · rw [if_pos hb] at h;cases h
  · rw [Bool.not_eq_false] at hb
    unfold GA at hb
    simp only [Bool.and_eq_true,decide_eq_true_eq] at hb
    exact Ro (by omega)
 have Wd:Hid (∀ w4 u0 u1 u2 u3 f0 f1,Below w1.heap.size w1 w4→∃ wF,(((((w4.setCell ⟨w.heap.size,0,none⟩ u0).setCell ⟨w.heap.size,1,none⟩ u1).setCell ⟨w.heap.size,2,none⟩ u2).setCell ⟨w.heap.size,3,none⟩ u3).setCell ⟨w.heap.size+1,0,none⟩ f0).setCell ⟨w.heap.size+1,1,none⟩ f1=wF∧AP wF w.heap.size #[u0,u1,u2,u3] 173∧AP wF (w.heap.size+1) #[f0,f1] 78∧Touch (fun x=>x=w.heap.size∨x=w.heap.size+1) w4 wF):=fun w4 u0 u1 u2 u3 f0 f1 hB4 =>
  YY (H0.out.below hB4 (by omega)) (H1.out.below hB4 hw1) (by omega) u0 u1 u2 u3 f0 f1
 have U9:Hid (∀ w4,Below w1.heap.size w1 w4→(w4.cell? ⟨w.heap.size,0,none⟩=some (.int .i64 0)∧w4.cell? ⟨w.heap.size,1,none⟩=some (.bool false)∧w4.cell? ⟨w.heap.size,2,none⟩=some (.slice none 0 0)∧w4.cell? ⟨w.heap.size,3,none⟩=some (.slice none 0 0))∧(w4.frozen? ⟨w.heap.size,0,none⟩=false∧w4.frozen? ⟨w.heap.size,1,none⟩=false∧w4.frozen? ⟨w.heap.size,2,none⟩=false∧w4.frozen? ⟨w.heap.size,3,none⟩=false)∧(w4.cell? ⟨w.heap.size+1,0,none⟩=some (.slice none 0 0)∧w4.cell? ⟨w.heap.size+1,1,none⟩=some (.int .i64 0))∧w4.frozen? ⟨w.heap.size+1,0,none⟩=false∧w4.frozen? ⟨w.heap.size+1,1,none⟩=false):=fun w4 hB4=>by
  have k0:=H0.out.below hB4 (by omega)
  have k1:=H1.out.below hB4 hw1
  exact ⟨k0.Cf,k0.JV,⟨k1.at 0 _ rfl,k1.at 1 _ rfl⟩,k1.free 0,k1.free 1⟩
 have LH:Hid (∀ w3 u0 u1 u2 u3 f0 f1 x f,Below w1.heap.size w1 w3→Bp w3 (C9 w1.heap.size w3.heap.size) (.agg #[u0,u1,u2,u3]) x→RF w3 (C9 w1.heap.size w3.heap.size) (.agg #[f0,f1]) f →
  ∃ wF,(((((w3.setCell ⟨w.heap.size,0,none⟩ u0).setCell ⟨w.heap.size,1,none⟩ u1).setCell ⟨w.heap.size,2,none⟩ u2).setCell ⟨w.heap.size,3,none⟩ u3).setCell ⟨w.heap.size+1,0,none⟩ f0).setCell ⟨w.heap.size+1,1,none⟩ f1=wF ∧
   (wF.cell? ⟨w.heap.size,0,none⟩=some u0∧wF.cell? ⟨w.heap.size,1,none⟩=some u1∧wF.cell? ⟨w.heap.size,2,none⟩=some u2∧wF.cell? ⟨w.heap.size,3,none⟩=some u3)∧(wF.cell? ⟨w.heap.size+1,0,none⟩=some f0∧wF.cell? ⟨w.heap.size+1,1,none⟩=some f1) ∧
   Bp wF (C9 w.heap.size wF.heap.size) (.agg #[u0,u1,u2,u3]) x∧RF wF (C9 w.heap.size wF.heap.size) (.agg #[f0,f1]) f∧Below w.heap.size w wF):=fun w3 u0 u1 u2 u3 f0 f1 x f hB3 hn hf=>by
  obtain ⟨wF,e,k0,k1,hT⟩:=Wd.out w3 u0 u1 u2 u3 f0 f1 hB3
  have hk:CS (C9 w1.heap.size w3.heap.size) w3 wF:=Ap hT (fun b hb=>⟨hb.2,fun e=>by have:=hb.1;omega⟩)
  have hs:∀ b,C9 w1.heap.size w3.heap.size b→C9 w.heap.size wF.heap.size b:=fun b hb=>⟨by have:=hb.1;omega,Nat.lt_of_lt_of_le hb.2 hT.size⟩
  exact ⟨wF,e,k0.Cf,⟨k1.at 0 _ rfl,k1.at 1 _ rfl⟩,hn.keep hs hk,hf.keep hs hk,(HB.out.trans (hB3.mono HB.out.size)).trans ((hT.weak (R':=fun x=>w.heap.size≤x) (fun x e=>by omega)).below (fun x h=>h) (by have:=hB3.size;omega))⟩
 have HBAD:Hid (∀ w3 A3 c3 E,E≠0→AZ bs no tree=E→Below w1.heap.size w1 w3→Aa w3 (C9 w1.heap.size w3.heap.size) (.slice A3 1 c3) [no] →
  ∃ wF,(((((w3.setCell ⟨w.heap.size,0,none⟩ (.int .i64 0)).setCell ⟨w.heap.size,1,none⟩ (.bool false)).setCell ⟨w.heap.size,2,none⟩ (.slice none 0 0)).setCell ⟨w.heap.size,3,none⟩ (.slice none 0 0)).setCell ⟨w.heap.size+1,0,none⟩ (.slice A3 1 c3)).setCell ⟨w.heap.size+1,1,none⟩ (.int .i64 E)=wF ∧
   (wF.cell? ⟨w.heap.size,0,none⟩=some (.int .i64 0)∧wF.cell? ⟨w.heap.size,1,none⟩=some (.bool false)∧wF.cell? ⟨w.heap.size,2,none⟩=some (.slice none 0 0)∧wF.cell? ⟨w.heap.size,3,none⟩=some (.slice none 0 0))∧(wF.cell? ⟨w.heap.size+1,0,none⟩=some (.slice A3 1 c3)∧wF.cell? ⟨w.heap.size+1,1,none⟩=some (.int .i64 E)) ∧
   MG w bs no tree (.returned (.tuple #[.agg #[.int .i64 0,.bool false,.slice none 0 0,.slice none 0 0],.agg #[.slice A3 1 c3,.int .i64 E]])) wF∧Below w.heap.size w wF):=fun w3 A3 c3 E hE xU hB3 hi=>by
  obtain ⟨wF,e,k0,k1,hn,hf,hB⟩:=LH.out w3 _ _ _ _ _ _ Mr ⟨[no],E⟩ hB3 Bp.zero ⟨A3,c3,rfl,hi⟩
  refine ⟨wF,e,k0,k1,⟨_,_,rfl,?_,?_⟩,hB⟩
  · rw [xU,if_neg hE];exact hn
  · rw [xU,KR no E hE];exact hf
 generalize hle:Dl (DY bs no.toNat)=l at *
 have JZ:=qh hle
 clear hle
 clear h0 h1 hB h hz
 by_cases ho:CQ bs 2 no=0
 · have Wp:Hid (Calls Tryz.prog 57 #[.pointer (some ⟨a,0,none⟩),.int .i64 no,.int .i64 2] w1 fun e w'=>(∃ A c,e=.returned (.tuple #[.slice A 244 c,.int .i64 0])∧AX w' (C9 w1.heap.size w'.heap.size) (.slice A 244 c) l)∧Below w1.heap.size w1 w'):=J2.out.mono fun e w' ⟨⟨v,he,hv⟩,hB⟩=>by
     unfold Bt at hv
     rw [if_pos ho,JZ.out] at hv
     obtain ⟨A,c,rfl,hc,hr⟩:=hv
     have hl:=HLEN.out ho
     rw [hl] at he
     exact ⟨⟨A,c,by rw [he,ho],⟨A,c,by rw [hl],hc,hr⟩⟩,hB⟩
   have HE:=qh (xu.out ho)
   have HL:=qh (HLEN.out ho)
   have Lc:Hid (∀ w2 A c,AX w2 (C9 w1.heap.size w2.heap.size) (.slice A 244 c) l→Calls Tryz.prog 231 #[.slice A 244 c] w2 fun e w'=>(∃ Ak nk ck Av nv cv,e=.returned (.tuple #[.agg #[.int .i64 (if Bl l=0 then Du l else Mr).tree,.bool (if Bl l=0 then Du l else Mr).leaf,.slice Ak nk ck,.slice Av nv cv],.int .i64 (Bl l)])∧Bp w' (C9 w2.heap.size w'.heap.size) (.agg #[.int .i64 (if Bl l=0 then Du l else Mr).tree,.bool (if Bl l=0 then Du l else Mr).leaf,.slice Ak nk ck,.slice Av nv cv]) (if Bl l=0 then Du l else Mr))∧Below w2.heap.size w2 w'):=fun w2 A c hi =>
    (Qn w2 _ _ l (fun b hb=>hb.2) hi HL.out).mono fun e w' ⟨⟨v,he,hn⟩,hB⟩=>by
     obtain ⟨Ak,nk,ck,Av,nv,cv,rfl⟩:=hn.open_
     exact ⟨⟨Ak,nk,ck,Av,nv,cv,he,hn⟩,hB⟩
   clear J2 HAE xu HLEN ho
   by_cases he:Bl l=0
   · have gZ:Hid (∀ w2 A c,AX w2 (C9 w1.heap.size w2.heap.size) (.slice A 244 c) l→Calls Tryz.prog 231 #[.slice A 244 c] w2 fun e w'=>(∃ Ak nk ck Av nv cv,e=.returned (.tuple #[.agg #[.int .i64 (nodeAt bs no).tree,.bool (nodeAt bs no).leaf,.slice Ak nk ck,.slice Av nv cv],.int .i64 0])∧Bp w' (C9 w2.heap.size w'.heap.size) (.agg #[.int .i64 (nodeAt bs no).tree,.bool (nodeAt bs no).leaf,.slice Ak nk ck,.slice Av nv cv]) (nodeAt bs no))∧Below w2.heap.size w2 w'):=fun w2 A c hi=>by
       have:=Lc.out w2 A c hi
       rw [he] at this
       simp only [if_true] at this
       rw [← TD.out] at this
       exact this
     have Ms:Hid (AZ bs no tree=if tree≠0∧(nodeAt bs no).tree≠tree then 6 else 0):=by
      show _=_
      rw [HE.out]
      unfold UR
      rw [if_neg (by rw [he];simp),← TD.out]
     have qH:Hid (∀ e w',AZ bs no tree=0→(∃ nv,e=.returned (.tuple #[nv,.agg #[.slice none 0 0,.int .i64 0]])∧Bp w' (C9 w.heap.size w'.heap.size) nv (nodeAt bs no))→MG w bs no tree e w'):=fun e w' h0 ⟨nv,he,hn⟩=>⟨nv,_,he,by rw [if_pos h0];exact hn,by rw [h0];exact RF.zero⟩
     clear Lc TD HE he
     generalize nodeAt bs no=x at *
     obtain ⟨xt,xl,xk,xv⟩:=x
     dsimp only at gZ Ms
     by_cases hk:tree≠0∧xt≠tree
     · have PX:Hid (AZ bs no tree=6):=Ms.out.trans (if_pos hk)
       have ht0:(tree==0)=false:=by simpa using hk.1
       have ht1:(xt==tree)=false:=by simpa using hk.2
       have zQ:(tree != 0)=true:=by unfold bne;rw [ht0];rfl
       have ACd:(xt != tree)=true:=by unfold bne;rw [ht1];rfl
       clear hk Ms qH
       go_upto_region 8 with first
        | (go_at_call 57;refine Wp.out.mono ?_;rintro e w2 ⟨⟨A,c,rfl,hi2⟩,hB2⟩;have HI2:=qh hi2;have HB2:=qh hB2;clear hi2 hB2)
        | (go_at_call 231;refine (gZ.out w2 A c HI2.out).mono ?_;rintro e w3 ⟨⟨Ak,nk,ck,Av,nv,cv,rfl,hn⟩,hB3⟩;have HB3:=qh hB3;have hbn:=AP.new w3 #[.int .i64 xt,.bool xl,.slice Ak nk ck,.slice Av nv cv] 173;obtain ⟨k0,k1,k2,k3⟩:=hbn.Cf;clear hn hB3 hbn)
       have CL:Hid (Below w1.heap.size w1 (w3.alloc (.cells #[.int .i64 xt,.bool xl,.slice Ak nk ck,.slice Av nv cv] 173))):=(HB2.out.trans (HB3.out.mono HB2.out.size)).alloc (Nat.le_trans HB2.out.size HB3.out.size) _
       have JQ:=qh (Gw (w3.alloc (.cells #[.int .i64 xt,.bool xl,.slice Ak nk ck,.slice Av nv cv] 173)) no 6 (by decide))
       generalize w3.alloc (.cells #[.int .i64 xt,.bool xl,.slice Ak nk ck,.slice Av nv cv] 173)=w4 at *
       clear k0 k1 k2 k3
       go_wp2_with (go_at_call 58;refine JQ.out.mono ?_;rintro e w5 ⟨⟨A3,c3,rfl,hi3⟩,BS⟩;have HI3:=qh hi3;have CE:=qh (CL.out.trans (BS.mono CL.out.size));clear hi3 BS;obtain ⟨⟨x0,x1,x2,x3⟩,⟨z0,z1,z2,z3⟩,⟨y0,y1⟩,y2,y3⟩:=U9.out w5 CE.out)
       obtain ⟨wF,ew,⟨r0,r1,r2,r3⟩,⟨r4,r5⟩,hR,OT⟩:=HBAD.out w5 A3 c3 6 (by decide) PX.out CE.out (HI3.out.sub (AA _) (fun b hb=>⟨Nat.le_trans CL.out.size hb.1,hb.2⟩))
       rw [ew]
       exact bodyPost_ret (v:=.tuple #[.agg #[.int .i64 0,.bool false,.slice none 0 0,.slice none 0 0],.agg #[.slice A3 1 c3,.int .i64 6]]) (by simp [results,Tryz.results211,go_sem,r0,r1,r2,r3,r4,r5]) rfl ⟨hR,OT⟩
     · have PX:Hid (AZ bs no tree=0):=Ms.out.trans (if_neg hk)
       clear Ms
       go_upto_region 7 with first
        | (go_at_call 57;refine Wp.out.mono ?_;rintro e w2 ⟨⟨A,c,rfl,hi2⟩,hB2⟩;have HI2:=qh hi2;have HB2:=qh hB2;clear hi2 hB2)
        | (go_at_call 231;refine (gZ.out w2 A c HI2.out).mono ?_;rintro e w3 ⟨⟨Ak,nk,ck,Av,nv,cv,rfl,hn⟩,hB3⟩;have HB3:=qh hB3;have hbn:=AP.new w3 #[.int .i64 xt,.bool xl,.slice Ak nk ck,.slice Av nv cv] 173;obtain ⟨k0,k1,k2,k3⟩:=hbn.Cf;have Vx:=qh hn;clear hn hB3 hbn)
       have hal:=(Below.refl w3.heap.size w3).alloc (Nat.le_refl _) (.cells #[.int .i64 xt,.bool xl,.slice Ak nk ck,.slice Av nv cv] 173)
       have CL:Hid (Below w1.heap.size w1 (w3.alloc (.cells #[.int .i64 xt,.bool xl,.slice Ak nk ck,.slice Av nv cv] 173))):=(HB2.out.trans (HB3.out.mono HB2.out.size)).alloc (Nat.le_trans HB2.out.size HB3.out.size) _
       have Nv:Hid (Bp (w3.alloc (.cells #[.int .i64 xt,.bool xl,.slice Ak nk ck,.slice Av nv cv] 173)) (C9 w1.heap.size (w3.alloc (.cells #[.int .i64 xt,.bool xl,.slice Ak nk ck,.slice Av nv cv] 173)).heap.size) (.agg #[.int .i64 xt,.bool xl,.slice Ak nk ck,.slice Av nv cv]) ⟨xt,xl,xk,xv⟩):=Vx.out.keep (fun b hb=>⟨Nat.le_trans HB2.out.size hb.1,Nat.lt_of_lt_of_le hb.2 hal.size⟩) (AL hal (fun b hb=>hb.2))
       generalize w3.alloc (.cells #[.int .i64 xt,.bool xl,.slice Ak nk ck,.slice Av nv cv] 173)=w4 at *
       obtain ⟨⟨x0,x1,x2,x3⟩,⟨z0,z1,z2,z3⟩,⟨y0,y1⟩,y2,y3⟩:=U9.out w4 CL.out
       go_cut [42] (fun v wx=>v=.bool false∧wx=w4)
       case first =>
        by_cases ht:tree=0
        · have ht0:(tree==0)=true:=by simpa using ht
          have zQ:(tree != 0)=false:=by unfold bne;rw [ht0];rfl
          clear hk ht
          go_wp2_with fail
          go_meet
          exact ⟨rfl,rfl⟩
        · have ht0:(tree==0)=false:=by simpa using ht
          have zQ:(tree != 0)=true:=by unfold bne;rw [ht0];rfl
          have hx:xt=tree:=Decidable.not_not.1 (fun h=>hk ⟨ht,h⟩)
          have ht1:(xt==tree)=true:=by simpa using hx
          have ACd:(xt != tree)=false:=by unfold bne;rw [ht1];rfl
          clear hk ht hx
          go_wp2_with fail
          go_meet
          exact ⟨rfl,rfl⟩
       case rest =>
       obtain ⟨rfl,hwc⟩:=hcut
       have hwc:=hwc.symm
       subst hwc
       clear hk
       go_wp2_with fail
       obtain ⟨wF,ew,⟨r0,r1,r2,r3⟩,⟨r4,r5⟩,hR,hF,OT⟩:=LH.out _ _ _ _ _ (.slice none 0 0) (.int .i64 0) _ Qc CL.out Nv.out RF.zero
       rw [ew]
       exact bodyPost_ret (v:=.tuple #[.agg #[.int .i64 xt,.bool xl,.slice Ak nk ck,.slice Av nv cv],.agg #[.slice none 0 0,.int .i64 0]]) (by simp [results,Tryz.results211,go_sem,r0,r1,r2,r3,r4,r5]) rfl ⟨qH.out _ _ PX.out ⟨_,rfl,hR⟩,OT⟩
   · have PX:Hid (AZ bs no tree=Bl l):=by
       show _=_
       rw [HE.out]
       unfold UR
       rw [if_pos he]
     have gZ:Hid (∀ w2 A c,AX w2 (C9 w1.heap.size w2.heap.size) (.slice A 244 c) l→Calls Tryz.prog 231 #[.slice A 244 c] w2 fun e w'=>(∃ nt nl Ak nk ck Av nv cv,e=.returned (.tuple #[.agg #[.int .i64 nt,.bool nl,.slice Ak nk ck,.slice Av nv cv],.int .i64 (Bl l)]))∧Below w2.heap.size w2 w'):=fun w2 A c hi=>(Lc.out w2 A c hi).mono fun e w' ⟨⟨Ak,nk,ck,Av,nv,cv,h,_⟩,hB⟩=>⟨⟨_,_,Ak,nk,ck,Av,nv,cv,h⟩,hB⟩
     have xw:(Bl l==0)=false:=by simpa using he
     have uG:(Bl l != 0)=true:=by unfold bne;rw [xw];rfl
     generalize Bl l=E at *
     have HEN:=qh he
     clear he Lc HE TD
     go_upto_region 6 with first
      | (go_at_call 57;refine Wp.out.mono ?_;rintro e w2 ⟨⟨A,c,rfl,hi2⟩,hB2⟩;have HI2:=qh hi2;have HB2:=qh hB2;clear hi2 hB2)
      | (go_at_call 231;refine (gZ.out w2 A c HI2.out).mono ?_;rintro e w3 ⟨⟨nt,nl,Ak,nk,ck,Av,nv,cv,rfl⟩,hB3⟩;have HB3:=qh hB3;clear hB3)
     have CL:Hid (Below w1.heap.size w1 (w3.alloc (.cells #[.int .i64 nt,.bool nl,.slice Ak nk ck,.slice Av nv cv] 173))):=(HB2.out.trans (HB3.out.mono HB2.out.size)).alloc (Nat.le_trans HB2.out.size HB3.out.size) _
     have JQ:=qh (Gw (w3.alloc (.cells #[.int .i64 nt,.bool nl,.slice Ak nk ck,.slice Av nv cv] 173)) no E HEN.out)
     generalize w3.alloc (.cells #[.int .i64 nt,.bool nl,.slice Ak nk ck,.slice Av nv cv] 173)=w4 at *
     go_wp2_with (go_at_call 58;refine JQ.out.mono ?_;rintro e w5 ⟨⟨A3,c3,rfl,hi3⟩,BS⟩;have HI3:=qh hi3;have CE:=qh (CL.out.trans (BS.mono CL.out.size));clear hi3 BS;obtain ⟨⟨x0,x1,x2,x3⟩,⟨z0,z1,z2,z3⟩,⟨y0,y1⟩,y2,y3⟩:=U9.out w5 CE.out)
     obtain ⟨wF,ew,⟨r0,r1,r2,r3⟩,⟨r4,r5⟩,hR,OT⟩:=HBAD.out w5 A3 c3 E HEN.out PX.out CE.out (HI3.out.sub (AA _) (fun b hb=>⟨Nat.le_trans CL.out.size hb.1,hb.2⟩))
     rw [ew]
     exact bodyPost_ret (v:=.tuple #[.agg #[.int .i64 0,.bool false,.slice none 0 0,.slice none 0 0],.agg #[.slice A3 1 c3,.int .i64 E]]) (by simp [results,Tryz.results211,go_sem,r0,r1,r2,r3,r4,r5]) rfl ⟨hR,OT⟩
 · have HE:=qh (HAE.out ho)
   have Wp:Hid (Calls Tryz.prog 57 #[.pointer (some ⟨a,0,none⟩),.int .i64 no,.int .i64 2] w1 fun e w'=>e=.returned (.tuple #[.slice none 0 0,.int .i64 (CQ bs 2 no)])∧Below w1.heap.size w1 w'):=J2.out.mono fun e w' ⟨⟨v,he,hv⟩,hB⟩=>by
    unfold Bt at hv
    rw [if_neg ho] at hv
    exact ⟨by rw [he,hv],hB⟩
   generalize CQ bs 2 no=E at *
   have HAT:=qh (fun w'=>Gw w' no E ho)
   have hE0:(E==0)=false:=by simpa using ho
   have HO:=qh ho
   clear J2 HAE xu TD HLEN ho
   go_upto_region 3 with (go_at_call 57;refine Wp.out.mono ?_;rintro e w2 ⟨rfl,hB2⟩;have HB2:=qh hB2;clear hB2)
   have JQ:=qh (HAT.out w2)
   go_wp2_with (go_at_call 58;refine JQ.out.mono ?_;rintro e w3 ⟨⟨A3,c3,rfl,hi3⟩,hB3⟩;have HI3:=qh hi3;have HB3:=qh (HB2.out.trans (hB3.mono HB2.out.size));have AES:=qh hB3;clear hi3 hB3;obtain ⟨⟨x0,x1,x2,x3⟩,⟨z0,z1,z2,z3⟩,⟨y0,y1⟩,y2,y3⟩:=U9.out w3 HB3.out)
   obtain ⟨wF,ew,⟨r0,r1,r2,r3⟩,⟨r4,r5⟩,hR,OT⟩:=HBAD.out w3 A3 c3 E HO.out HE.out HB3.out (HI3.out.sub (AA _) (fun b hb=>⟨Nat.le_trans HB2.out.size hb.1,hb.2⟩))
   rw [ew]
   exact bodyPost_ret (v:=.tuple #[.agg #[.int .i64 0,.bool false,.slice none 0 0,.slice none 0 0],.agg #[.slice A3 1 c3,.int .i64 E]]) (by simp [results,Tryz.results211,go_sem,r0,r1,r2,r3,r4,r5]) rfl ⟨hR,OT⟩
end
end Go.Proofs.YtpenklpdjpkigaaGreat
