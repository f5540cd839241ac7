/- A part of the proof: WRWhole. -/
import Derived.Test.YtpenklpdjpkigaaGreatX13
import Derived.Test.YtpenklpdjpkigaaGreatX7
import Derived.Test.YtpenklpdjpkigaaGreatY1
set_option maxHeartbeats 6400000
set_option linter.unusedVariables false
set_option linter.unusedSimpArgs false
namespace Go.Proofs.YtpenklpdjpkigaaGreat
section
open Go.RowKit Go.Shelf
attribute [local go_sem] Oper.semAt_some
def VX (w0 w:World) (e:Ending) (st:WS):Prop:=∃ v fv,e=.returned (.tuple #[v,fv])∧RF w (C9 w0.heap.size w.heap.size) fv (BJ st)∧(if (BJ st).code=0 then EZ w0 w v st else v=KW)
theorem EZ.below {w0 w w':World} {v:Value} {st:WS} (h:EZ w0 w v st) (hB:Below w.heap.size w w'):EZ w0 w' v st:=by
 obtain ⟨Ae,ce,Ab,cb,Af,cf,xs,e,h1,h2,h3,h4⟩:=h
 exact ⟨Ae,ce,Ab,cb,Af,cf,xs,e,own_below h1 hB (Nat.le_refl _),own_below h2 hB (Nat.le_refl _),own_below h3 hB (Nat.le_refl _),h4.keep DF (fun b hb=>⟨hb.1,Nat.lt_of_lt_of_le hb.2 hB.size⟩) (AL hB (fun b hb=>hb.2))⟩
theorem EZ.base {w0 w1 w:World} {v:Value} {st:WS} (h:EZ w1 w v st) (hb:w0.heap.size≤w1.heap.size):EZ w0 w v st:=by
 obtain ⟨Ae,ce,Ab,cb,Af,cf,xs,e,h1,h2,h3,h4⟩:=h
 exact ⟨Ae,ce,Ab,cb,Af,cf,xs,e,h1.mono hb,h2.mono hb,h3.mono hb,h4.keep DF (fun b hx=>⟨Nat.le_trans hb hx.1,hx.2⟩) CS.refl⟩
theorem EZ.touch {w0 w w':World} {v:Value} {st:WS} {B:Nat} (h:EZ w0 w v st) (hT:Touch (fun x=>x<B) w w') (hg:B≤w0.heap.size):EZ w0 w' v st:=by
 obtain ⟨Ae,ce,Ab,cb,Af,cf,xs,e,h1,h2,h3,h4⟩:=h
 exact ⟨Ae,ce,Ab,cb,Af,cf,xs,e,BG h1 hT (fun x hx e=>by have:=(h1.lt x hx).1;omega),BG h2 hT (fun x hx e=>by have:=(h2.lt x hx).1;omega),BG h3 hT (fun x hx e=>by have:=(h3.lt x hx).1;omega),h4.keep DF (fun b hb=>⟨hb.1,Nat.lt_of_lt_of_le hb.2 hT.size⟩) (Ap hT (fun b hb=>⟨hb.2,fun e=>by have:=hb.1;omega⟩))⟩
theorem Nc {w:World} {g f:Nat} {u0 u1 u2 u3 u4 v0 v1 a0 a1 a2 a3 a4 b0 b1:Value} {T T2:TypeId} (h:AP w g #[a0,a1,a2,a3,a4] T) (hf:AP w f #[b0,b1] T2) (hne:f≠g) :
 ∃ w',((((((w.setCell ⟨g,0,none⟩ u0).setCell ⟨g,1,none⟩ u1).setCell ⟨g,2,none⟩ u2).setCell ⟨g,3,none⟩ u3).setCell ⟨g,4,none⟩ u4).setCell ⟨f,0,none⟩ v0).setCell ⟨f,1,none⟩ v1=w'∧AP w' g #[u0,u1,u2,u3,u4] T∧AP w' f #[v0,v1] T2∧Touch (fun x=>x=g∨x=f) w w':=by
 have ht:=Em w g u0 u1 u2 u3 u4
 have hb:AP (((((w.setCell ⟨g,0,none⟩ u0).setCell ⟨g,1,none⟩ u1).setCell ⟨g,2,none⟩ u2).setCell ⟨g,3,none⟩ u3).setCell ⟨g,4,none⟩ u4) g #[u0,u1,u2,u3,u4] T:=((((h.set 0 u0).set 1 u1).set 2 u2).set 3 u3).set 4 u4
 have hf9:AP (((((w.setCell ⟨g,0,none⟩ u0).setCell ⟨g,1,none⟩ u1).setCell ⟨g,2,none⟩ u2).setCell ⟨g,3,none⟩ u3).setCell ⟨g,4,none⟩ u4) f #[b0,b1] T2:=(ht.block hf.lt (fun e=>hne e)).trans hf
 exact ⟨_,rfl,(hb.far hne 0 v0).far hne 1 v1,hf9.UW v0 v1,(ht.weak (fun x e=>.inl e)).trans ((Eh _ f v0 v1).weak (fun x e=>.inr e))⟩
set_option maxRecDepth 100000 in
theorem QB (w:World) (S:Nat→Prop) (a:Nat) (bs:List UInt8) (root tree fuel:Int) (hS:∀ b,S b→b<w.heap.size) (h:Hq w S a bs) (hf:fuel≤9999999) :
 Calls Tryz.prog 60 #[.pointer (some ⟨a,0,none⟩),.int .i64 root,.int .i64 tree,.int .i64 fuel] w fun e w'=>VX w w' e (Az bs root tree fuel)∧Below w.heap.size w w':=by
 have WX:=qh (Yf bs root tree fuel)
 obtain ⟨hb,hfx,hB1,hsz⟩:=AP.two w #[.slice none 0 0,.slice none 0 0,.int .i64 0,.int .i64 0,.slice none 0 0] #[.slice none 0 0,.int .i64 0] 145 78
 go_enter Tryz.func60,Tryz.ntmps60
 go_upto_region 1 with fail
 generalize (w.alloc (.cells #[.slice none 0 0,.slice none 0 0,.int .i64 0,.int .i64 0,.slice none 0 0] 145)).alloc (.cells #[.slice none 0 0,.int .i64 0] 78)=w1 at *
 have qP:=qh (aZ w1 S a bs root tree fuel (fun b hb=>Nat.lt_of_lt_of_le (hS b hb) hB1.size) (h.below hB1 hS) hf)
 generalize hst:Az bs root tree fuel=st at *
 have HST:=qh hst
 have HB1:=qh hB1
 have YZ:=qh hb
 have nR:=qh hfx
 have hne:w.heap.size+1≠w.heap.size:=by omega
 obtain ⟨f,lw⟩:∃ f,w.heap.size+1=f:=⟨_,rfl⟩
 rw [lw] at nR hne ⊢
 have yF:Hid (f=w.heap.size+1):=lw.symm
 have hfl:f<w1.heap.size:=nR.out.lt
 clear hst h hS hf hB1 hb hfx lw hsz
 go_upto_region 2 with (go_at_call 105;(with_reducible refine qP.out.mono ?_);rintro e w2 ⟨⟨_,rfl,Ae,ce,Ab,cb,Af,cf,xs,rfl,h1,h2,h3,h4⟩,hB2⟩;have HR1:=qh h1;have HR2:=qh h2;have HR3:=qh h3;have HR4:=qh h4;have HB2:=qh hB2;clear h1 h2 h3 h4 hB2)
 have hg3:=AP.new w2 #[.slice Ae st.AO.length ce,.slice Ab st.AV.length cb,.int .i64 st.deep,.int .i64 st.looked,.slice Af st.AR.length cf] 145
 have hB3:Below w2.heap.size w2 (w2.alloc (.cells #[.slice Ae st.AO.length ce,.slice Ab st.AV.length cb,.int .i64 st.deep,.int .i64 st.looked,.slice Af st.AR.length cf] 145)):=(Below.refl _ _).alloc (Nat.le_refl _) _
 have lq:=HB2.out.size
 have tC:=qh (EZ.below (w:=w2) (w':=w2.alloc (.cells #[.slice Ae st.AO.length ce,.slice Ab st.AV.length cb,.int .i64 st.deep,.int .i64 st.looked,.slice Af st.AR.length cf] 145)) ⟨Ae,ce,Ab,cb,Af,cf,xs,rfl,HR1.out,HR2.out,HR3.out,HR4.out⟩ hB3)
 have hx3:=(YZ.out.below HB2.out YZ.out.lt).below hB3 (by have:=YZ.out.lt;omega)
 have hf3:=(nR.out.below HB2.out hfl).below hB3 (by omega)
 have hr3:=own_below HR3.out hB3 (Nat.le_refl _)
 have hc3:Bj ZQ 2 Qc (w2.alloc (.cells #[.slice Ae st.AO.length ce,.slice Ab st.AV.length cb,.int .i64 st.deep,.int .i64 st.looked,.slice Af st.AR.length cf] 145)) (C9 w1.heap.size w2.heap.size) st.AR xs:=HR4.out.keep DF (fun _ h=>h) (AL hB3 (fun b hb=>hb.2))
 generalize w2.alloc (.cells #[.slice Ae st.AO.length ce,.slice Ab st.AV.length cb,.int .i64 st.deep,.int .i64 st.looked,.slice Af st.AR.length cf] 145)=w3 at *
 have HW3:=qh (HB1.out.trans ((HB2.out.trans (hB3.mono lq)).mono HB1.out.size))
 have ADM:=hB3.size
 have ADN:=HB1.out.size
 have HC3:=qh hc3
 have vF:=qh hr3
 have LM:=qh hx3
 have iq:=qh hf3
 have OP:=qh hg3
 obtain ⟨g,hgg⟩:∃ g,w2.heap.size=g:=⟨_,rfl⟩
 rw [hgg] at OP HC3 lq ADM ⊢
 have hgl:g<w3.heap.size:=OP.out.lt
 clear hx3 hf3 hg3 hr3 hc3 hB3 HR1 HR2 HR3 HR4 YZ nR HB2 qP hgg
 have g0:=OP.out.at 0 _ rfl
 have g1:=OP.out.at 1 _ rfl
 have g2:=OP.out.at 2 _ rfl
 have g3:=OP.out.at 3 _ rfl
 have g4:=OP.out.at 4 _ rfl
 have y0:=LM.out.at 0 _ rfl
 have y1:=LM.out.at 1 _ rfl
 have y2:=LM.out.at 2 _ rfl
 have y3:=LM.out.at 3 _ rfl
 have y4:=LM.out.at 4 _ rfl
 have z0:=LM.out.free 0
 have z1:=LM.out.free 1
 have z2:=LM.out.free 2
 have z3:=LM.out.free 3
 have z4:=LM.out.free 4
 have q0:=iq.out.at 0 _ rfl
 have q1:=iq.out.at 1 _ rfl
 have p0:=iq.out.free 0
 have p1:=iq.out.free 1
 by_cases hc:0<st.AR.length
 · have HF0:Hid ((BJ st).code≠0):=by
     unfold BJ
     exact WX.out _ (Bv _ _ 0 hc)
   obtain ⟨gf,cp,e1,hbf,hgf,hnc⟩:=FV vF.out hc
   injection e1 with e1 e2 e3
   subst e1 e3
   obtain ⟨cs,hl,⟨A4,c4,rfl,hi4⟩,hcs⟩:=HC3.out.2 0 hc
   have hx0:=hcs 0 (by omega)
   have hx1:=hcs 1 (by omega)
   rw [Nat.zero_mul] at hx0 hx1
   have k0:w3.cell? ⟨gf,0,none⟩=_:=vF.out.cells rfl 0 _ hx0
   have k1:w3.cell? ⟨gf,1,none⟩=_:=vF.out.cells rfl 1 _ hx1
   have hd:decide ((0:Int)<(st.AR.length:Int))=true:=decide_eq_true (by omega)
   have hd2:decide (0<st.AR.length)=true:=decide_eq_true hc
   have hi0:(0:Int)<(st.AR.length:Int):=by omega
   have HI4:=qh hi4
   obtain ⟨fs,hfs⟩:∃ fs,nth Qc st.AR 0=fs:=⟨_,rfl⟩
   have HFS:Hid (BJ st=fs):=hfs
   rw [hfs] at k0 k1 HI4
   obtain ⟨fb,fc⟩:=fs
   dsimp only at k0 k1 HI4
   obtain ⟨nf,hnf⟩:∃ n,fb.length=n:=⟨_,rfl⟩
   have HNF:=qh hnf
   rw [hnf] at k0
   have AAj:gf≠w.heap.size:=by have:=yF.out;omega
   have ADO:g≠w.heap.size:=by have:=yF.out;omega
   have nS:gf<w3.heap.size:=hgf
   have nT:Hid (AP w3.drew g #[.slice Ae st.AO.length ce,.slice Ab st.AV.length cb,.int .i64 st.deep,.int .i64 st.looked,.slice (some ⟨gf,0,none⟩) st.AR.length cf] 145∧w3.drew.cell? ⟨gf,0,none⟩=some (.slice A4 nf c4)∧w3.drew.cell? ⟨gf,1,none⟩=some (.int .i64 fc)∧AP w3.drew f #[.slice none 0 0,.int .i64 0] 78):=⟨OP.out,k0,k1,iq.out⟩
   have HKP:Hid (∀ w',Touch (fun x=>x=w.heap.size) w3.drew w'→AP w' g #[.slice Ae st.AO.length ce,.slice Ab st.AV.length cb,.int .i64 st.deep,.int .i64 st.looked,.slice (some ⟨gf,0,none⟩) st.AR.length cf] 145∧w'.cell? ⟨gf,0,none⟩=some (.slice A4 nf c4)∧w'.cell? ⟨gf,1,none⟩=some (.int .i64 fc)∧AP w' f #[.slice none 0 0,.int .i64 0] 78):=fun w' ht=>⟨(ht.block nT.out.1.lt (fun e=>ADO e)).trans nT.out.1,(World.cell?_of_block (a:=⟨gf,0,none⟩) (ht.block nS (fun e=>AAj e))).trans nT.out.2.1,(World.cell?_of_block (a:=⟨gf,1,none⟩) (ht.block nS (fun e=>AAj e))).trans nT.out.2.2.1,(ht.block nT.out.2.2.2.lt (fun e=>hne e)).trans nT.out.2.2.2⟩
   clear hcs hx0 hx1 hl hi4 hfs hnf
   go_upto_region 3 with fail
   refine AF (T:=fun j=>j==6) (S:=fun w'=>AP w' g #[.slice Ae st.AO.length ce,.slice Ab st.AV.length cb,.int .i64 st.deep,.int .i64 st.looked,.slice (some ⟨gf,0,none⟩) st.AR.length cf] 145∧w'.cell? ⟨gf,0,none⟩=some (.slice A4 nf c4)∧w'.cell? ⟨gf,1,none⟩=some (.int .i64 fc)∧AP w' f #[.slice none 0 0,.int .i64 0] 78) (by kernel_rfl) (nT.out) (fun hHeld=>?_)
   refine qs 0 20 hHeld ?_
   refine qs 1 21 hHeld ?_
   refine qf 2 22 rfl rfl hHeld (by intro w hSw;have g4:=hSw.1.at 4 _ rfl;go_simp;(try with_reducible rfl)) ?_
   refine qs 3 23 hHeld ?_
   refine qf 4 24 rfl rfl hHeld (by intro w hSw;have k0:=hSw.2.1;have k1:=hSw.2.2.1;go_simp;(try with_reducible rfl)) ?_
   refine qo 5 fun K hK=>?_
   (have y0:World.cell? w3.drew ⟨w.heap.size,0,none⟩=_:=LM.out.at 0 _ rfl;have z0:World.frozen? w3.drew ⟨w.heap.size,0,none⟩=_:=LM.out.free 0;have y1:World.cell? w3.drew ⟨w.heap.size,1,none⟩=_:=LM.out.at 1 _ rfl;have z1:World.frozen? w3.drew ⟨w.heap.size,1,none⟩=_:=LM.out.free 1;have y2:World.cell? w3.drew ⟨w.heap.size,2,none⟩=_:=LM.out.at 2 _ rfl;have z2:World.frozen? w3.drew ⟨w.heap.size,2,none⟩=_:=LM.out.free 2;have y3:World.cell? w3.drew ⟨w.heap.size,3,none⟩=_:=LM.out.at 3 _ rfl;have z3:World.frozen? w3.drew ⟨w.heap.size,3,none⟩=_:=LM.out.free 3;have y4:World.cell? w3.drew ⟨w.heap.size,4,none⟩=_:=LM.out.at 4 _ rfl;have z4:World.frozen? w3.drew ⟨w.heap.size,4,none⟩=_:=LM.out.free 4)
   go_simp
   have Bi:=HKP.out _ (Em w3.drew w.heap.size (.slice none 0 0) (.slice none 0 0) (.int .i64 0) (.int .i64 0) (.slice none 0 0))
   clear hHeld
   have hHeld:=Bi
   clear Bi
   refine hK.out _ _ (fun _=>hHeld) (fun _=>?_)
   clear hK K
   (try simp only [Act.put,qS])
   refine qo 6 fun K hK=>?_
   (have q0:World.cell? w3.drew ⟨f,0,none⟩=_:=iq.out.at 0 _ rfl;have q1:World.cell? w3.drew ⟨f,1,none⟩=_:=iq.out.at 1 _ rfl;have p0:World.frozen? w3.drew ⟨f,0,none⟩=_:=iq.out.free 0;have p1:World.frozen? w3.drew ⟨f,1,none⟩=_:=iq.out.free 1)
   go_simp
   refine hK.out _ _ (fun h=>by cases h) (fun _=>?_)
   clear hK K hHeld
   (try simp only [Act.put,qS])
   refine qd ?_
   obtain ⟨w8,ew,hbx,hfx,htx⟩:=Nc (w:=w3) (u0:=.slice none 0 0) (u1:=.slice none 0 0) (u2:=.int .i64 0) (u3:=.int .i64 0) (u4:=.slice none 0 0) (v0:=.slice A4 nf c4) (v1:=.int .i64 fc) LM.out iq.out hne
   rw [ew]
   obtain ⟨w9,vG⟩:∃ x,w8.drew=x:=⟨_,rfl⟩
   rw [vG]
   have DU:Hid (AP w9 w.heap.size #[.slice none 0 0,.slice none 0 0,.int .i64 0,.int .i64 0,.slice none 0 0] 145):=by show AP _ _ _ _;rw [← vG];exact hbx
   have HFX:Hid (AP w9 f #[.slice A4 nf c4,.int .i64 fc] 78):=by show AP _ _ _ _;rw [← vG];exact hfx
   have Wh:Hid (Touch (fun x=>x=w.heap.size∨x=f) w3 w9):=by show Touch _ _ _;rw [← vG];exact htx.trans Touch.drew
   clear ew hbx hfx htx vG
   go_wp2_with fail
   have r0:=DU.out.at 0 _ rfl
   have r1:=DU.out.at 1 _ rfl
   have r2:=DU.out.at 2 _ rfl
   have r3:=DU.out.at 3 _ rfl
   have r4:=DU.out.at 4 _ rfl
   have f0:=HFX.out.at 0 _ rfl
   have f1:=HFX.out.at 1 _ rfl
   exact bodyPost_ret (v:=.tuple #[KW,.agg #[.slice A4 nf c4,.int .i64 fc]]) (by simp [results,Tryz.results60,go_sem,KW,r0,r1,r2,r3,r4,f0,f1]) rfl ⟨⟨_,_,rfl,by rw [HST.out,HFS.out];exact ⟨A4,c4,by rw [HNF.out],HI4.out.keep (AA _) (fun b hb=>⟨by have:=hb.1;omega,by have:=hb.2;have:=Wh.out.size;omega⟩) (Ap Wh.out (fun b hb=>⟨by have:=hb.2;omega,by have:=hb.1;have:=yF.out;rintro (e|e) <;> omega⟩))⟩,by rw [HST.out,if_neg HF0.out]⟩,HW3.out.trans ((Wh.out.weak (R':=fun y=>w.heap.size≤y) (fun y e=>by have:=yF.out;rcases e with e|e <;> omega)).below (fun x h=>h) (by omega))⟩
 · have hn0:st.AR.length=0:=by omega
   have HF0:Hid ((BJ st).code=0):=by
    show _=_
    rw [XP WX.out]
    exact List.eq_nil_of_length_eq_zero hn0
   have OO:Hid (BJ st=Qc):=by
    show _=_
    unfold BJ
    rw [List.eq_nil_of_length_eq_zero hn0]
    rfl
   have hd:decide ((0:Int)<(st.AR.length:Int))=false:=decide_eq_false (by omega)
   have hd2:decide (0<st.AR.length)=false:=decide_eq_false (by omega)
   have yG:=qh hn0
   clear hc hn0
   go_wp2_with fail
   obtain ⟨w9,ew,hbx,hfx,htx⟩:=Nc (u0:=.slice Ae st.AO.length ce) (u1:=.slice Ab st.AV.length cb) (u2:=.int .i64 st.deep) (u3:=.int .i64 st.looked) (u4:=.slice Af st.AR.length cf) (v0:=.slice none 0 0) (v1:=.int .i64 0) LM.out iq.out hne
   rw [ew]
   have r0:=hbx.at 0 _ rfl
   have r1:=hbx.at 1 _ rfl
   have r2:=hbx.at 2 _ rfl
   have r3:=hbx.at 3 _ rfl
   have r4:=hbx.at 4 _ rfl
   have f0:=hfx.at 0 _ rfl
   have f1:=hfx.at 1 _ rfl
   have I6:EZ w w9 (.agg #[.slice Ae st.AO.length ce,.slice Ab st.AV.length cb,.int .i64 st.deep,.int .i64 st.looked,.slice Af st.AR.length cf]) st:=(tC.out.touch (B:=w1.heap.size) (htx.weak (fun x e=>by have:=yF.out;rcases e with e|e <;> omega)) (Nat.le_refl _)).base ADN
   exact bodyPost_ret (v:=.tuple #[.agg #[.slice Ae st.AO.length ce,.slice Ab st.AV.length cb,.int .i64 st.deep,.int .i64 st.looked,.slice Af st.AR.length cf],.agg #[.slice none 0 0,.int .i64 0]]) (by simp [results,Tryz.results60,go_sem,r0,r1,r2,r3,r4,f0,f1]) rfl ⟨⟨_,_,rfl,by rw [HST.out,OO.out];exact RF.zero,by rw [HST.out,if_pos HF0.out];exact I6⟩,HW3.out.trans ((htx.weak (R':=fun y=>w.heap.size≤y) (fun y e=>by have:=yF.out;rcases e with e|e <;> omega)).below (fun x h=>h) (by omega))⟩
end
end Go.Proofs.YtpenklpdjpkigaaGreat
