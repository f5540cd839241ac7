/- A part of the proof: WScan, WWhole, WholeV, WLoad2, WLoad3, DevOwn, PairsR, RLone, DevSt, DevPut, WLoad4. -/
import Derived.Test.YtpenklpdjpkigaaGreatX10
import Derived.Test.YtpenklpdjpkigaaGreatX7
import Derived.Test.YtpenklpdjpkigaaGreatY1
import Derived.Test.YtpenklpdjpkigaaGreatY2
import Derived.Test.YtpenklpdjpkigaaGreatY4
import Derived.Test.YtpenklpdjpkigaaGreatX11
import Derived.Deep.Cut
import Derived.Deep.DeepCutAuto
import Derived.Test.YtpenklpdjpkigaaGreatY15
import Derived.Maps.OwnIn
import Derived.Sort.CutIn
set_option maxHeartbeats 6400000
set_option linter.unusedVariables false
set_option linter.unusedSimpArgs false
namespace Go.Proofs.YtpenklpdjpkigaaGreat
section
open Go.RowKit Go.Shelf
attribute [local go_sem] Oper.semAt_some
set_option maxRecDepth 100000 in
theorem iP (w:World) (S:Nat→Prop) (img:Nat) (bs:List UInt8) (root tree fuel:Int) (hS:∀ b,S b→b<w.heap.size) (h:Cj w S img bs) (hl:bs.length≤140737488355328) (hf:fuel≤9999999) :
 Calls Tryz.prog 141 #[.pointer (some ⟨img,0,none⟩),.int .i64 root,.int .i64 tree,.int .i64 fuel] w fun e w'=>(∃ v,e=.returned v∧Gq w w' v (Az bs root tree fuel))∧Below w.heap.size w w':=by
 have HV:=qh (fun a w3 hW hS' hI hb=>Rs a a img tree fuel bs 17 (by omega) w3 OE [] none none none none 0 0 0 0 [] S root 0 281474976710656 hW hS' hI hl hb (by decide) rfl (by simp [OE]) (by simp [OE]) (by omega) (by simp [Ii,OE]))
 have hb0:=AP.new w #[.slice none 0 0,.slice none 0 0,.int .i64 0,.int .i64 0,.slice none 0 0] 178
 have hB1:Below w.heap.size w (w.alloc (.cells #[.slice none 0 0,.slice none 0 0,.int .i64 0,.int .i64 0,.slice none 0 0] 178)):=(Below.refl _ _).alloc (Nat.le_refl _) _
 have hz1:(w.alloc (.cells #[.slice none 0 0,.slice none 0 0,.int .i64 0,.int .i64 0,.slice none 0 0] 178)).heap.size=w.heap.size+1:=by simp
 go_enter Tryz.func141,Tryz.ntmps141
 go_upto_region 1 with fail
 generalize w.alloc (.cells #[.slice none 0 0,.slice none 0 0,.int .i64 0,.int .i64 0,.slice none 0 0] 178)=w1 at *
 have hb1:=AP.new w1 #[.slice none 0 0,.slice none 0 0,.int .i64 0,.int .i64 0,.slice none 0 0,.pointer (some ⟨img,0,none⟩),.int .i64 tree,.int .i64 fuel,.slice none 0 0,.bool false] 318
 have hB2:Below w1.heap.size w1 (w1.alloc (.cells #[.slice none 0 0,.slice none 0 0,.int .i64 0,.int .i64 0,.slice none 0 0,.pointer (some ⟨img,0,none⟩),.int .i64 tree,.int .i64 fuel,.slice none 0 0,.bool false] 318)):=(Below.refl _ _).alloc (Nat.le_refl _) _
 have hlt1:w.heap.size<w1.heap.size:=by omega
 clear hz1
 go_upto_region 2 with fail
 generalize w1.alloc (.cells #[.slice none 0 0,.slice none 0 0,.int .i64 0,.int .i64 0,.slice none 0 0,.pointer (some ⟨img,0,none⟩),.int .i64 tree,.int .i64 fuel,.slice none 0 0,.bool false] 318)=w2 at *
 have AAE:=hB1.trans (hB2.mono (Nat.le_of_lt hlt1))
 have hz2:=hb1.lt
 have hW2:Wk w2 w1.heap.size w1.heap.size img tree fuel OE [] none 0 none 0 none 0 none 0 [] :=
  ⟨Nat.le_refl _,hb1,World.ownsRow_nil _ _ _ _,World.ownsRow_nil _ _ _ _,World.ownsRow_nil _ _ _ _,World.ownsRow_nil _ _ _ _,fun x hx=>(by cases hx),⟨rfl,fun k hk=>absurd hk (by simp [OE])⟩⟩
 have zG:Hid (∀ b,S b→¬ Gn w1.heap.size OE [] none 0 none 0 none 0 none 0 b):=fun b hb hx=>by
  have:=hS b hb
  rcases hx with h|h|h|h|h
  · omega
  all_goals cases h
 have AAF:=hb0.below hB2 hlt1
 have ug:=qh AAE
 have HW2:=qh hW2
 have HB0:=qh AAF
 clear hb0 hb1 hB1 hB2 hW2 AAE AAF
 have HI:=qh h
 go_upto_region 3 with first
  | (go_at_call 201;refine (NT w2).mono ?_;rintro e w3 ⟨rfl,hB3⟩)
  | (go_at_call 200;refine (HV.out _ w3 (HW2.out.below hB3) (fun b hb=>⟨by have:=hS b hb;have:=hB3.size;omega,zG.out b hb⟩) ((HI.out.below ug.out hS).below hB3 (fun b hb=>by have:=hS b hb;omega)) (by have:=hB3.size;omega)).mono ?_;rintro e w4 ⟨⟨r4,rfl⟩,hA⟩)
 have AEY:=hB3.size
 have Yg:Hid (Touch (fun x=>w.heap.size≤x) w w4):=by
  obtain ⟨_,_,_,_,_,_,_,_,_,_,hT,_⟩:=hA
  refine (Touch.of_below (ug.out.trans (hB3.mono (by have:=ug.out.size;exact this)))).trans (hT.weak (fun x hx=>?_))
  rcases hx with h|h|h|h|h
  · omega
  all_goals cases h
 have HA:Hid (∃ Ae ce Ab cb Af cf Aw cw vs,Wk w4 w1.heap.size w1.heap.size img tree fuel (Az bs root tree fuel) [] Ae ce Ab cb Af cf Aw cw vs):=by
  obtain ⟨Ae,ce,Ab,cb,Af,cf,Aw,cw,vs,hW,_,_⟩:=hA
  exact ⟨Ae,ce,Ab,cb,Af,cf,Aw,cw,vs,hW⟩
 have hb4:AP w4 w.heap.size #[.slice none 0 0,.slice none 0 0,.int .i64 0,.int .i64 0,.slice none 0 0] 178:=by
  obtain ⟨_,_,_,_,_,_,_,_,_,_,hT,_⟩:=hA
  refine (hT.block (by omega) (fun hx=>?_)).trans (HB0.out.below hB3 (by omega))
  rcases hx with h|h|h|h|h
  · omega
  all_goals cases h
 generalize hst:Az bs root tree fuel=st at *
 have HST:=qh hst
 clear hst
 clear hA hB3 HV
 obtain ⟨Ae,ce,Ab,cb,Af,cf,Aw,cw,vs,hW⟩:=HA.out
 obtain ⟨y0,y1,y2,y3,y4,-⟩:=hW.cells
 have x0:=hb4.at 0 _ rfl
 have x1:=hb4.at 1 _ rfl
 have x2:=hb4.at 2 _ rfl
 have x3:=hb4.at 3 _ rfl
 have x4:=hb4.at 4 _ rfl
 have z0:=hb4.free 0
 have z1:=hb4.free 1
 have z2:=hb4.free 2
 have z3:=hb4.free 3
 have z4:=hb4.free 4
 have hgb:w.heap.size≠w1.heap.size:=by omega
 have HW:=qh hW
 have CE:=qh (((((hb4.set 0 (.slice Ae st.AO.length ce)).set 1 (.slice Ab st.AV.length cb)).set 2 (.int .i64 st.deep)).set 3 (.int .i64 st.looked)).set 4 (.slice Af st.AR.length cf))
 have JA:Hid (Touch (fun x=>x=w.heap.size) w4 (((((w4.setCell ⟨w.heap.size,0,none⟩ (.slice Ae st.AO.length ce)).setCell ⟨w.heap.size,1,none⟩ (.slice Ab st.AV.length cb)).setCell ⟨w.heap.size,2,none⟩ (.int .i64 st.deep)).setCell ⟨w.heap.size,3,none⟩ (.int .i64 st.looked)).setCell ⟨w.heap.size,4,none⟩ (.slice Af st.AR.length cf))) :=
  Em w4 w.heap.size _ _ _ _ _
 have CL:=qh hb4
 clear hW HA hb4
 go_wp2_with fail
 generalize ((((w4.setCell ⟨w.heap.size,0,none⟩ (.slice Ae st.AO.length ce)).setCell ⟨w.heap.size,1,none⟩ (.slice Ab st.AV.length cb)).setCell ⟨w.heap.size,2,none⟩ (.int .i64 st.deep)).setCell ⟨w.heap.size,3,none⟩ (.int .i64 st.looked)).setCell ⟨w.heap.size,4,none⟩ (.slice Af st.AR.length cf)=w5 at *
 have r0:=CE.out.at 0 (.slice Ae st.AO.length ce) rfl
 have r1:=CE.out.at 1 (.slice Ab st.AV.length cb) rfl
 have r2:=CE.out.at 2 (.int .i64 st.deep) rfl
 have r3:=CE.out.at 3 (.int .i64 st.looked) rfl
 have r4:=CE.out.at 4 (.slice Af st.AR.length cf) rfl
 have hW:=HW.out
 have hlow:=fun b (hb:w1.heap.size≤b) (e:b=w.heap.size)=>by omega
 have Ja:=JA.out
 have hkb:∀ b,FB w4 w1.heap.size b→FB w5 w1.heap.size b:=fun b hb=>⟨hb.1,by obtain ⟨cs,h⟩:=hb.2;exact ⟨cs,(Ja.block hb.lt (fun e=>by have:=hb.1;omega)).trans h⟩⟩
 have hkk:CS (FB w4 w1.heap.size) w4 w5:=Ap Ja (fun b hb=>⟨hb.lt,fun e=>by have:=hb.1;omega⟩)
 have BS:Below w.heap.size w w5:=(Yg.out.trans (Ja.weak (fun x e=>by omega))).below (fun x h=>h) (Nat.le_refl _)
 refine bodyPost_ret (v:=.agg #[.slice Ae st.AO.length ce,.slice Ab st.AV.length cb,.int .i64 st.deep,.int .i64 st.looked,.slice Af st.AR.length cf]) (by simp [results,Tryz.results141,go_sem,r0,r1,r2,r3,r4]) rfl ⟨⟨_,rfl,?_⟩,BS⟩
 rw [HST.out]
 refine ⟨Ae,ce,Ab,cb,Af,cf,vs,rfl,?_,?_,?_,?_⟩
 · exact (BG hW.AO Ja (fun x hx e=>by have:=(hW.AO.lt x hx).1;omega)).mono (Nat.le_of_lt hlt1)
 · exact (BG hW.AV Ja (fun x hx e=>by have:=(hW.AV.lt x hx).1;omega)).mono (Nat.le_of_lt hlt1)
 · exact (BG hW.AR Ja (fun x hx e=>by have:=(hW.AR.lt x hx).1;omega)).mono (Nat.le_of_lt hlt1)
 · exact hW.errs.keep (fun b hb=>⟨Nat.le_trans (Nat.le_of_lt hlt1) hb.1,(hkb b hb).2⟩) hkk
end
section
open Go.RowKit Go.Shelf
attribute [local go_sem] Oper.semAt_some
set_option maxRecDepth 100000 in
theorem aV (w:World) (base:Nat) (Af:Option Addr) (cf:Nat) (vs:List Value) (l:List K6) (h:w.ownsRow base 40 1 (.slice Af l.length cf) l.length vs) (hf:JK w (FB w base) vs l) (hok:∀ x∈l,x.code≠0) :
 Calls Tryz.prog 142 #[.slice Af l.length cf] w fun e w'=>(∃ ev,e=.returned ev∧CJ w (FB w base) ev (nth ⟨[],0⟩ l 0))∧w'=w:=by
 cases l with
 | nil =>
  simp only [List.length_nil] at h ⊢
  clear h hf hok
  go_enter Tryz.func142,Tryz.ntmps142
  go_wp2_with fail
  go_loop [7] (fun i=>i=.int .i64 0) (fun _=>0)
  case atStart=>rfl
  case round =>
   subst hrel
   go_wp2_with fail
   go_ret
   exact ⟨⟨_,rfl,CJ.F4⟩,rfl⟩
 | cons x r =>
  rw [List.length_cons] at h ⊢
  obtain ⟨g,rfl,hg,hc,hsrc⟩:=CG h (by omega)
  have he:=hf.2 0 (by simp)
  rw [EP] at he ⊢
  have hl:vs.length=r.length+1:=by rw [hf.1];simp
  have c0:=hsrc 0 (nth .nilIface vs 0) (by rw [Ac _ _ 0 (by omega)];exact List.getElem?_eq_getElem (by omega))
  obtain ⟨ty,u,hv,_⟩:=he.form
  rw [hv] at he c0
  rw [add_lit,Nat.zero_add] at c0
  have HE:Hid (CJ w (FB w base) (.iface ty u) x):=by
   show CJ _ _ _ _
   unfold CJ
   rw [if_neg (hok x (by simp))]
   exact he
  generalize r.length=n at *
  clear h hf hok hsrc he hv hl
  go_enter Tryz.func142,Tryz.ntmps142
  go_wp2_with fail
  go_loop [7] (fun i=>i=.int .i64 0) (fun _=>0)
  case atStart=>rfl
  case round =>
   subst hrel
   have hn1:(0:Int)<(n:Int)+1:=by omega
   go_wp2_with fail
   go_ret
   exact ⟨⟨_,rfl,HE.out⟩,rfl⟩
set_option maxRecDepth 100000 in
theorem M4 (w:World) (S:Nat→Prop) (img:Nat) (bs:List UInt8) (root tree fuel:Int) (hS:∀ b,S b→b<w.heap.size) (h:Cj w S img bs) (hl:bs.length≤140737488355328) (hf:fuel≤9999999) :
 Calls Tryz.prog 81 #[.pointer (some ⟨img,0,none⟩),.int .i64 root,.int .i64 tree,.int .i64 fuel] w fun e w'=>TP w w' e (Az bs root tree fuel)∧Below w.heap.size w w':=by
 have WX:=qh (Yf bs root tree fuel)
 have hb0:=AP.new w #[.slice none 0 0,.slice none 0 0,.int .i64 0,.int .i64 0,.slice none 0 0] 178
 have hB1:Below w.heap.size w (w.alloc (.cells #[.slice none 0 0,.slice none 0 0,.int .i64 0,.int .i64 0,.slice none 0 0] 178)):=(Below.refl _ _).alloc (Nat.le_refl _) _
 go_enter Tryz.func81,Tryz.ntmps81
 go_upto_region 1 with fail
 generalize w.alloc (.cells #[.slice none 0 0,.slice none 0 0,.int .i64 0,.int .i64 0,.slice none 0 0] 178)=w1 at *
 have qP:=qh (iP w1 S img bs root tree fuel (fun b hb=>Nat.lt_of_lt_of_le (hS b hb) hB1.size) (h.below hB1 hS) hl hf)
 generalize hst:Az bs root tree fuel=st at *
 have HST:=qh hst
 have HB1:=qh hB1
 have HB0:=qh hb0
 clear hst h hS hl hf hB1 hb0
 go_upto_region 2 with (go_at_call 141;refine qP.out.mono ?_;rintro e w2 ⟨⟨_,rfl,Ae,ce,Ab,cb,Af,cf,vs,rfl,h1,h2,h3,h4⟩,hB2⟩;have HR1:=qh h1;have HR2:=qh h2;have HR3:=qh h3;have HF:=qh h4;have HB2:=qh hB2;clear h1 h2 h3 h4 hB2)
 have hg2:=AP.new w2 #[.slice Ae st.AO.length ce,.slice Ab st.AV.length cb,.int .i64 st.deep,.int .i64 st.looked,.slice Af st.AR.length cf] 178
 have hB3:Below w2.heap.size w2 (w2.alloc (.cells #[.slice Ae st.AO.length ce,.slice Ab st.AV.length cb,.int .i64 st.deep,.int .i64 st.looked,.slice Af st.AR.length cf] 178)):=(Below.refl _ _).alloc (Nat.le_refl _) _
 have AC6:=HB2.out.size
 have hlt:=HB0.out.lt
 have hb3:=(HB0.out.below HB2.out hlt).below hB3 (by omega)
 have hSI:Gq w1 w2 (.agg #[.slice Ae st.AO.length ce,.slice Ab st.AV.length cb,.int .i64 st.deep,.int .i64 st.looked,.slice Af st.AR.length cf]) st :=
  ⟨Ae,ce,Ab,cb,Af,cf,vs,rfl,HR1.out,HR2.out,HR3.out,HF.out⟩
 have uh:=hSI.below hB3
 generalize w2.alloc (.cells #[.slice Ae st.AO.length ce,.slice Ab st.AV.length cb,.int .i64 st.deep,.int .i64 st.looked,.slice Af st.AR.length cf] 178)=w3 at *
 have Rj:Hid (Calls Tryz.prog 142 #[.slice Af st.AR.length cf] w3 fun e w'=>(∃ ev,e=.returned ev∧CJ w3 (FB w3 w1.heap.size) ev (BJ st))∧w'=w3):=by
  obtain ⟨Ae',ce',Ab',cb',Af',cf',vs',e,h1,h2,h3,h4⟩:=uh
  injection e with e
  simp at e
  obtain ⟨-,-,rfl,rfl⟩:=e
  exact aV w3 w1.heap.size Af cf vs' st.AR h3 h4 WX.out
 obtain ⟨g0,g1,g2,g3,g4⟩:w3.cell? ⟨w2.heap.size,0,none⟩=some (.slice Ae st.AO.length ce)∧w3.cell? ⟨w2.heap.size,1,none⟩=some (.slice Ab st.AV.length cb)∧w3.cell? ⟨w2.heap.size,2,none⟩=some (.int .i64 st.deep)∧w3.cell? ⟨w2.heap.size,3,none⟩=some (.int .i64 st.looked)∧w3.cell? ⟨w2.heap.size,4,none⟩=some (.slice Af st.AR.length cf):=⟨hg2.at 0 _ rfl,hg2.at 1 _ rfl,hg2.at 2 _ rfl,hg2.at 3 _ rfl,hg2.at 4 _ rfl⟩
 have x0:=hb3.at 0 _ rfl
 have x1:=hb3.at 1 _ rfl
 have x2:=hb3.at 2 _ rfl
 have x3:=hb3.at 3 _ rfl
 have x4:=hb3.at 4 _ rfl
 have z0:=hb3.free 0
 have z1:=hb3.free 1
 have z2:=hb3.free 2
 have z3:=hb3.free 3
 have z4:=hb3.free 4
 have tC:=qh uh
 have HB3:=qh (HB1.out.trans ((HB2.out.trans (hB3.mono HB2.out.size)).mono HB1.out.size))
 have DU:=qh hb3
 clear hg2 hB3 hb3 hSI uh HR1 HR2 HR3 HF WX HB0 HB2 qP
 by_cases hc:(BJ st).code=0
 · have HFN:Hid (Calls Tryz.prog 142 #[.slice Af st.AR.length cf] w3 fun e w'=>e=.returned .nilIface∧w'=w3):=Rj.out.mono fun e w' ⟨⟨ev,he,hi⟩,hw⟩=>by
     unfold CJ at hi
     rw [if_pos hc] at hi
     exact ⟨by rw [he,hi],hw⟩
   have HC:=qh hc
   have CE:=qh (((((DU.out.set 0 (.slice Ae st.AO.length ce)).set 1 (.slice Ab st.AV.length cb)).set 2 (.int .i64 st.deep)).set 3 (.int .i64 st.looked)).set 4 (.slice Af st.AR.length cf))
   have JA:=qh (Em w3 w.heap.size (.slice Ae st.AO.length ce) (.slice Ab st.AV.length cb) (.int .i64 st.deep) (.int .i64 st.looked) (.slice Af st.AR.length cf))
   clear hc Rj DU
   go_wp2_with (go_at_call 142;refine HFN.out.mono ?_;rintro e w3 ⟨rfl,rfl⟩)
   generalize ((((w3.setCell ⟨w.heap.size,0,none⟩ (.slice Ae st.AO.length ce)).setCell ⟨w.heap.size,1,none⟩ (.slice Ab st.AV.length cb)).setCell ⟨w.heap.size,2,none⟩ (.int .i64 st.deep)).setCell ⟨w.heap.size,3,none⟩ (.int .i64 st.looked)).setCell ⟨w.heap.size,4,none⟩ (.slice Af st.AR.length cf)=w5 at *
   have r0:=CE.out.at 0 (.slice Ae st.AO.length ce) rfl
   have r1:=CE.out.at 1 (.slice Ab st.AV.length cb) rfl
   have r2:=CE.out.at 2 (.int .i64 st.deep) rfl
   have r3:=CE.out.at 3 (.int .i64 st.looked) rfl
   have r4:=CE.out.at 4 (.slice Af st.AR.length cf) rfl
   refine bodyPost_ret (v:=.tuple #[.agg #[.slice Ae st.AO.length ce,.slice Ab st.AV.length cb,.int .i64 st.deep,.int .i64 st.looked,.slice Af st.AR.length cf],.nilIface]) (by simp [results,Tryz.results81,go_sem,r0,r1,r2,r3,r4]) rfl ⟨?_,HB3.out.trans ((JA.out.weak (R':=fun x=>w.heap.size≤x) (fun x e=>by omega)).below (fun x h=>h) (by have:=HB3.out.size;omega))⟩
   rw [HST.out]
   refine ⟨_,_,rfl,?_,?_⟩
   · unfold CJ;rw [if_pos HC.out]
   · rw [if_pos HC.out];exact (tC.out.touch JA.out hlt).base HB1.out.size
 · have HFN:Hid (Calls Tryz.prog 142 #[.slice Af st.AR.length cf] w3 fun e w'=>(∃ ty u,e=.returned (.iface ty u)∧CJ w3 (FB w3 w1.heap.size) (.iface ty u) (BJ st))∧w'=w3):=Rj.out.mono fun e w' ⟨⟨ev,he,hi⟩,hw⟩=>by
     have h0:=hi
     unfold CJ at hi
     rw [if_neg hc] at hi
     obtain ⟨ty,u,rfl,_⟩:=hi.form
     exact ⟨⟨ty,u,he,h0⟩,hw⟩
   have HC:=qh hc
   have CE:=qh (((((DU.out.set 0 (.slice none 0 0)).set 1 (.slice none 0 0)).set 2 (.int .i64 0)).set 3 (.int .i64 0)).set 4 (.slice none 0 0))
   have JA:=qh (Em w3 w.heap.size (.slice none 0 0) (.slice none 0 0) (.int .i64 0) (.int .i64 0) (.slice none 0 0))
   clear hc Rj DU
   go_wp2_with (go_at_call 142;refine HFN.out.mono ?_;rintro e w3 ⟨⟨ty,u,rfl,hev⟩,rfl⟩;have HEV:=qh hev;clear hev)
   generalize ((((w3.setCell ⟨w.heap.size,0,none⟩ (.slice none 0 0)).setCell ⟨w.heap.size,1,none⟩ (.slice none 0 0)).setCell ⟨w.heap.size,2,none⟩ (.int .i64 0)).setCell ⟨w.heap.size,3,none⟩ (.int .i64 0)).setCell ⟨w.heap.size,4,none⟩ (.slice none 0 0)=w5 at *
   have r0:=CE.out.at 0 (.slice none 0 0) rfl
   have r1:=CE.out.at 1 (.slice none 0 0) rfl
   have r2:=CE.out.at 2 (.int .i64 0) rfl
   have r3:=CE.out.at 3 (.int .i64 0) rfl
   have r4:=CE.out.at 4 (.slice none 0 0) rfl
   refine bodyPost_ret (v:=.tuple #[KW,.iface ty u]) (by simp [results,Tryz.results81,go_sem,r0,r1,r2,r3,r4,KW]) rfl ⟨?_,HB3.out.trans ((JA.out.weak (R':=fun x=>w.heap.size≤x) (fun x e=>by omega)).below (fun x h=>h) (by have:=HB3.out.size;omega))⟩
   rw [HST.out]
   obtain ⟨k1,k2⟩:=VN (base:=w1.heap.size) JA.out hlt
   refine ⟨_,_,rfl,(HEV.out.keep k1 k2).keep (fun b hx=>⟨Nat.le_trans HB1.out.size hx.1,hx.2⟩) CS.refl,?_⟩
   rw [if_neg HC.out]
end
section
open Go.RowKit Go.Shelf
def FI (w0 w:World) (st:WS) (Ae:Option Addr) (ne ce:Nat) (ev:Value):Prop :=
 CJ w (FB w w0.heap.size) ev (BJ st)∧((BJ st).code=0→ne=st.AO.length∧w.ownsRow w0.heap.size 108 3 (.slice Ae ne ce) ne (AB Cq st.AO))∧((BJ st).code≠0→ne=0∧Ae=none)
theorem FI.of {w0 w1 w:World} {st:WS} {e:Ending} (h:TP w1 w e st) (hb:w0.heap.size≤w1.heap.size):∃ Ae ne ce Ab nb cb dp lk Af nf cf ev,e=.returned (.tuple #[.agg #[.slice Ae ne ce,.slice Ab nb cb,.int .i64 dp,.int .i64 lk,.slice Af nf cf],ev])∧FI w0 w st Ae ne ce ev:=by
 obtain ⟨v,ev,rfl,he,hv⟩:=h
 have he2:CJ w (FB w w0.heap.size) ev (BJ st):=he.keep (fun b hb2=>⟨by have:=hb2.1;omega,hb2.2⟩) CS.refl
 by_cases hc:(BJ st).code=0
 · rw [if_pos hc] at hv
   obtain ⟨Ae,ce,Ab,cb,Af,cf,vs,rfl,h1,_⟩:=hv
   exact ⟨Ae,_,ce,Ab,_,cb,_,_,Af,_,cf,ev,rfl,he2,fun _=>⟨rfl,h1.mono hb⟩,fun h=>absurd hc h⟩
 · rw [if_neg hc] at hv
   subst hv
   exact ⟨none,0,0,none,0,0,0,0,none,0,0,ev,rfl,he2,fun h=>absurd h hc,fun _=>⟨rfl,rfl⟩⟩
theorem FI.below {w0 w w':World} {st:WS} {Ae:Option Addr} {ne ce:Nat} {ev:Value} (h:FI w0 w st Ae ne ce ev) (hB:Below w.heap.size w w'):FI w0 w' st Ae ne ce ev:=by
 obtain ⟨h1,h2,h3⟩:=h
 obtain ⟨k1,k2⟩:=E8 (w:=w) (w':=w') (base:=w0.heap.size) (fun b cs hb=>hB.block b (Array.getElem?_eq_some_iff.1 hb).1)
 exact ⟨h1.keep k1 k2,fun hc=>⟨(h2 hc).1,own_below (h2 hc).2 hB (Nat.le_refl _)⟩,h3⟩
theorem FI.put {w0 w w':World} {st:WS} {Ae:Option Addr} {ne ce g:Nat} {ev:Value} {cs:Array Value} {T:TypeId} (h:FI w0 w st Ae ne ce ev) (hT:Touch (fun x=>x=g) w w') (hg:AP w g cs T) (h1:T≠327) (h2:T≠108):FI w0 w' st Ae ne ce ev:=by
 obtain ⟨p1,p2,p3⟩:=h
 obtain ⟨k1,k2⟩:=E8 (w:=w) (w':=w') (base:=w0.heap.size) (fun b cs hb=>hT.block (Array.getElem?_eq_some_iff.1 hb).1 (fun e=>by
  subst e
  unfold AP at hg
  rw [hb] at hg
  injection hg with hg
  injection hg with _ h4
  exact h1 h4.symm))
 exact ⟨p1.keep k1 k2,fun hc=>⟨(p2 hc).1,BG (p2 hc).2 hT (fun x hx e=>by subst e;exact BC (p2 hc).2 hg (fun e=>h2 e.symm) hx.symm)⟩,p3⟩
def Pq (w0 w:World) (st:WS) (g:Nat) (Ae:Option Addr) (ne ce:Nat) (ev:Value):Prop :=
 w0.heap.size≤g∧Below w0.heap.size w0 w∧FI w0 w st Ae ne ce ev∧∃ Ab nb cb dp lk Af nf cf,AP w g #[.slice Ae ne ce,.slice Ab nb cb,.int .i64 dp,.int .i64 lk,.slice Af nf cf] 178
theorem KX {w0 w:World} {st:WS} {g:Nat} {Ae Ab Af:Option Addr} {ne ce nb cb nf cf:Nat} {dp lk:Int} {ev:Value} (hb:w0.heap.size≤g) (hB:Below w0.heap.size w0 w) (h:FI w0 w st Ae ne ce ev) (hx:AP w g #[.slice none 0 0,.slice none 0 0,.int .i64 0,.int .i64 0,.slice none 0 0] 178) (w':World)
 (hw:((((w.setCell ⟨g,0,none⟩ (.slice Ae ne ce)).setCell ⟨g,1,none⟩ (.slice Ab nb cb)).setCell ⟨g,2,none⟩ (.int .i64 dp)).setCell ⟨g,3,none⟩ (.int .i64 lk)).setCell ⟨g,4,none⟩ (.slice Af nf cf)=w'):Pq w0 w' st g Ae ne ce ev:=by
 have hT:=Em w g (.slice Ae ne ce) (.slice Ab nb cb) (.int .i64 dp) (.int .i64 lk) (.slice Af nf cf)
 rw [hw] at hT
 refine ⟨hb,hB.trans ((hT.weak (R':=fun y=>w0.heap.size≤y) (fun y e=>by omega)).below (fun x h=>h) hB.size),h.put hT hx (by decide) (by decide),Ab,nb,cb,dp,lk,Af,nf,cf,?_⟩
 have h5:=((((hx.set 0 (.slice Ae ne ce)).set 1 (.slice Ab nb cb)).set 2 (.int .i64 dp)).set 3 (.int .i64 lk)).set 4 (.slice Af nf cf)
 rw [hw] at h5
 exact h5
end
section
open Go.RowKit Go.Shelf
attribute [local go_sem] Oper.semAt_some
end
section
open Go.RowKit Go.Shelf
attribute [local go_sem] Oper.semAt_some
theorem Px {w:World} {g:Nat} {a0 a1 a2 a3 a4:Value} {T:TypeId} (h:AP w g #[a0,a1,a2,a3,a4] T) (u0 u1 u2 u3 u4:Value):∃ w',((((w.setCell ⟨g,0,none⟩ u0).setCell ⟨g,1,none⟩ u1).setCell ⟨g,2,none⟩ u2).setCell ⟨g,3,none⟩ u3).setCell ⟨g,4,none⟩ u4=w'∧AP w' g #[u0,u1,u2,u3,u4] T∧Touch (fun x=>x=g) w w'∧w'.heap.size=w.heap.size :=
 ⟨_,rfl,((((h.set 0 u0).set 1 u1).set 2 u2).set 3 u3).set 4 u4,Em _ _ _ _ _ _ _,by simp [World.setCell]⟩
end
section
open Go Go.RowKit
theorem aY:(Tryz.prog.info? 115).map (fun i=>(i.zero,i.size,i.bytes))=some (some (.agg #[.int .i64 0,.int .i64 0,.int .i64 0,.int .i64 0,.slice none 0 0]),5,56):=by kernel_rfl
abbrev IJ (w:World) (base:Nat) (v:Value) (l:List Mp):Prop:=w.ownsRow base 137 3 v l.length (AB Mp.enc l)
end
section
open Go.RowKit Go.Shelf
theorem MJ {V:World} {base n c:Nat} {A:Option Addr} {l:List Kq} (h:V.ownsRow base 108 3 (.slice A n c) n (AB Cq l)) (hn:n=l.length) :
 ∃ g,(0<n→A=some ⟨g,0,none⟩∧g<V.heap.size)∧n≤c∧∀ i j u,i<l.length→(Cq (nth ED l i))[j]? = some u→V.cell? ⟨g,i*3+j,none⟩=some u:=by
 by_cases h0:0<n
 · obtain ⟨g,hA,hg,hc,hsrc⟩:=CG h h0
   refine ⟨g,fun _=>⟨hA,hg⟩,hc,fun i j u hi hu=>?_⟩
   have:=hsrc (i*3+j) u (DK (size:=3) JJ l i j u hi hu)
   rwa [add_lit,Nat.zero_add] at this
 · obtain ⟨A',c',e,hc⟩:=DJ h
   injection e with e1 e2 e3
   exact ⟨0,fun h=>absurd h h0,by omega,fun i j u hi=>by omega⟩
end
section
open Go.RowKit Go.Shelf
end
section
open Go Go.RowKit
theorem Ng {W:World} {base e size:Nat} {v:Value} {n:Nat} {xs:List Value} (h:W.ownsRow base e size v n xs):∀ x,v.ownBlock=some x→∃ cs T,W.heap[x]? = some (Obj.cells cs T (0,0)):=by
 intro x hx
 rcases h.2 with ⟨hv,h0⟩|⟨g,cap,cur,hv,hb,hg,rest⟩
 · rw [hv] at hx;cases hx
 · rw [hv] at hx
   have e:x=g:=by simpa [Value.ownBlock] using hx.symm
   subst e
   exact ⟨_,_,hg⟩
end
section
open Go Go.RowKit
end
section
open Go.RowKit Go.Shelf
attribute [local go_sem] Oper.semAt_some
theorem nz {W:World} {g ga:Nat} {x y:Value} {T1 T2:TypeId} (h1:AP W g #[x] T1) (h2:AP W ga #[y] T2) (hne:g≠ga) (u v:Value) :
 ∃ W9,(W.setCell ⟨g,0,none⟩ u).setCell ⟨ga,0,none⟩ v=W9∧W9.cell? ⟨g,0,none⟩=some u∧W9.cell? ⟨ga,0,none⟩=some v∧Touch (fun b=>b=g∨b=ga) W W9∧AP W9 g #[u] T1∧AP W9 ga #[v] T2:=by
 have a1:=(h1.set 0 u).far (b:=ga) (fun e=>hne e.symm) 0 v
 have a2:=(h2.far hne 0 u).set 0 v
 exact ⟨_,rfl,a1.at 0 _ rfl,a2.at 0 _ rfl,(Touch.Dc (R:=fun b=>b=g∨b=ga) (p:=⟨g,0,none⟩) (.inl rfl)).trans (Touch.Dc (R:=fun b=>b=g∨b=ga) (p:=⟨ga,0,none⟩) (.inr rfl)),a1,a2⟩
theorem rE {F:Fence} {n:Nat} {P:Program} {fn:Func} {R:Ending→World→Prop} {a:Act} {w:World} {v:Value} {D:Nat} (hK:w.heap[D]? = some (.deferred (some []))) (hr:(results fn a.tmps).run P (w.putObj D (.deferred none))=.ok v (w.putObj D (.deferred none))) (hd:a.defers=[{ target:=.collected D,args:=#[] }]) (hR:R (.returned v) (w.putObj D (.deferred none))):bodyPostM F n P fn R .ret a w:=by
 show LeavesInM F n P fn a.tmps R a.defers .returning w
 rw [hd]
 exact ⟨by simp,.inl ⟨_,_,rfl,run_takeDeferred hK,v,hr,hR⟩⟩
theorem AAn {F:Fence} {n:Nat} {P:Program} {fn:Func} {R:Ending→World→Prop} {a:Act} {w:World} {v:Value} {D E:Nat} (hne:D≠E) (hK:w.heap[D]? = some (.deferred (some []))) (hE:w.heap[E]? = some (.deferred (some []))) (hr:(results fn a.tmps).run P ((w.putObj E (.deferred none)).putObj D (.deferred none))=.ok v ((w.putObj E (.deferred none)).putObj D (.deferred none))) (hd:a.defers=[{ target:=.collected E,args:=#[] },{ target:=.collected D,args:=#[] }]) (hR:R (.returned v) ((w.putObj E (.deferred none)).putObj D (.deferred none))):bodyPostM F n P fn R .ret a w:=by
 show LeavesInM F n P fn a.tmps R a.defers .returning w
 rw [hd]
 exact ⟨by simp,.inl ⟨_,_,rfl,run_takeDeferred hE,by simp,.inl ⟨_,_,rfl,run_takeDeferred ((World.putObj_heap_other hne).trans hK),v,hr,hR⟩⟩⟩
theorem Ht (bs:List UInt8) (root tree fuel:Int) (hf:fuel≤9999999):(Az bs root tree fuel).AO.length≤1000000000:=by
 by_cases h0:0≤fuel
 · have:=(nD bs root tree fuel h0).1
   unfold Ii at this
   omega
 · unfold Az BV
   rw [if_pos (by show fuel≤0;omega)]
   show (OE.AO).length≤_
   simp [OE]
end
end Go.Proofs.YtpenklpdjpkigaaGreat
