/- A part of the proof: WChild, WVisit, WScan, WWhole, WholeV, WLoad2, WLoad3, DevOwn, PairsR, RLone, DevSt, DevPut, WLoad4. -/
import Derived.Test.YthblbddmcdnllaaGreatDoorX30
import Derived.Test.YthblbddmcdnllaaGreatDoorX15
import Derived.Test.YthblbddmcdnllaaGreatDoorX27
import Derived.Test.YthblbddmcdnllaaGreatDoorX28
import Derived.Deep.CutBlock
import Derived.Deep.DeepCutAuto
import Derived.Test.YthblbddmcdnllaaGreatDoorY1
import Derived.Test.YthblbddmcdnllaaGreatDoorX4
import Derived.Test.YthblbddmcdnllaaGreatDoorX22
import Derived.Test.YthblbddmcdnllaaGreatDoorX3
import Derived.Deep.Cut
import Derived.Test.YthblbddmcdnllaaGreatDoorX32
import Derived.Maps.OwnIn
import Derived.Sort.CutIn
set_option maxHeartbeats 6400000
set_option linter.unusedVariables false
set_option linter.unusedSimpArgs false
namespace Go.Proofs.YthblbddmcdnllaaGreatDoor
section
open Go.RowKit Go.Shelf
attribute [local go_sem] Oper.semAt_some
set_option maxRecDepth 100000 in
theorem Ut (w:World) (base a img:Nat) (tree fuel:Int) (st:WS) (way:List Int) (Ae Ab Af Aw:Option Addr) (ce cb cf cw:Nat) (vs:List Value) (no lo hi:Int) (v:List UInt8) (F:Int→WS)
 (h:Wk w base a img tree fuel st (way++[no]) Ae ce Ab cb Af cf Aw cw vs) (hbase:base≤w.heap.size) (hn:way.length≤999) (hf:st.Ag.length≤1000000000) (hv:v.length≤140737488355328)
 (Ls:∀ w1:World,Below w.heap.size w w1→(Au v).2=0→Calls Tryz.prog 206 #[.pointer (some ⟨a,0,none⟩),.int .i64 (Au v).1,.agg #[.int .i64 lo,.int .i64 hi]] w1 fun e w'=>(∃ r,e=.returned r)∧After w1 w' base a img tree fuel st (F (Au v).1) (way++[no]) Ae Ab Af Aw ce cb cf cw) :
 Calls Tryz.prog 221 #[.pointer (some ⟨a,0,none⟩),.int .i64 no,.string (BJ v),.agg #[.int .i64 lo,.int .i64 hi]] w fun e w'=>(∃ r,e=.returned r)∧After w w' base a img tree fuel st (if (Au v).2≠0 then Ay st ⟨way++[no],(Au v).2⟩ else F (Au v).1) (way++[no]) Ae Ab Af Aw ce cb cf cw:=by
 obtain ⟨r,c,hrc⟩:∃ r c,Au v=(r,c):=⟨_,_,rfl⟩
 have HRR:=qh (fun w'=>OC w' v hv)
 rw [hrc] at HRR Ls
 rw [hrc]
 dsimp only at HRR Ls ⊢
 have halt:=h.box.lt
 have hx:=AL.new w #[.int .i64 lo,.int .i64 hi] 332
 have hB1:Below w.heap.size w (w.alloc (.cells #[.int .i64 lo,.int .i64 hi] 332)):=(Below.refl _ _).alloc (Nat.le_refl _) _
 have h1:=h.below hB1
 go_enter Tryz.func221,Tryz.ntmps221
 go_upto_region 1 with fail
 generalize w.alloc (.cells #[.int .i64 lo,.int .i64 hi] 332)=w1 at *
 have x0:=hx.at 0 (.int .i64 lo) rfl
 have x1:=hx.at 1 (.int .i64 hi) rfl
 by_cases hc:c=0
 · subst hc
   have HV:=qh (fun w1 hB=>Ls w1 hB rfl)
   have HB1:=qh hB1
   have HX:=qh hx
   clear Ls h h1 hrc hB1 hx
   go_wp2_with first
    | (go_at_call 183;refine (HRR.out _).mono ?_;rintro e w2 ⟨rfl,hB2⟩;have x0:=AY hB2 HX.out.lt x0;have x1:=AY hB2 HX.out.lt x1;have HB2:=qh (HB1.out.trans (hB2.mono HB1.out.size));clear hB2)
    | (go_at_call 206;refine (HV.out _ HB2.out).mono ?_;rintro e w3 ⟨⟨r3,rfl⟩,hA⟩)
   exact bodyPost_ret (results_none rfl _ _ _) rfl ⟨⟨_,rfl⟩,After.Wx (Touch.of_below HB2.out) (fun x h=>.inl h) hA⟩
 · have hcb:(c==0)=false:=by simpa using hc
   have h2:∀ w2,Below w1.heap.size w1 w2→Wk w2 base a img tree fuel st (way++[no]) Ae ce Ab cb Af cf Aw cw vs:=fun w2 hB=>h1.below hB
   have hwf:∃ g,Aw=some ⟨g,0,none⟩∧(way++[no]).length=way.length+1∧way.length+1≤cw:=by
    obtain ⟨g,cap,e,_,_,hcap⟩:=Eg h1.ways (by simp)
    injection e with e e2 e3
    subst e3
    rw [List.length_append,List.length_singleton] at hcap
    exact ⟨g,e,by simp,hcap⟩
   obtain ⟨g,rfl,hwl,hcw⟩:=hwf
   have sI:way.length≤cw:=by omega
   have hcw2:¬ cw=0:=by omega
   have hcw3:(way.length:Int)≤(cw:Int):=by omega
   have HB1:=qh hB1
   have H2:=qh h2
   clear Ls h h1 h2 hrc hB1 hx
   go_upto_region 4 with (go_at_call 183;refine (HRR.out _).mono ?_;rintro e w2 ⟨rfl,hB2⟩)
   have hW:=H2.out w2 hB2
   have HW:=qh hW
   obtain ⟨y0,y1,y2,y3,y4,y5,y6,y7,y8,y9⟩:=hW.cells
   have z8:=hW.free 8
   rw [hwl] at y8
   have e1:IntKind.i64.wrap (((way.length+1:Nat):Int)-1)=(way.length:Int):=by rw [IntKind.wrap_i64];omega
   have e2:((way.length+1:Nat):Int)-1=(way.length:Int):=by omega
   go_upto_region 6 with fail
   have XC:w2.ownsRow base 3 1 (.slice (some ⟨g,0,none⟩) way.length cw) way.length (AA encI way):=by
    have h0:=hW.ways
    rw [hwl] at h0
    have h1:=S9 h0
    rw [BK,List.take_left' (by rw [CO (size:=1) Bu,Nat.mul_one])] at h1
    exact h1
   have hW3:=hW.turn XC rfl
   have HT3:Hid (Touch (fun x=>x=a) w2 (w2.setCell ⟨a,8,none⟩ (.slice (some ⟨g,0,none⟩) way.length cw))):=Touch.BZ rfl
   have HB2:=qh (HB1.out.trans (hB2.mono HB1.out.size))
   generalize w2.setCell ⟨a,8,none⟩ (.slice (some ⟨g,0,none⟩) way.length cw)=w3 at *
   have Ur:base≤w3.heap.size:=by have:=HT3.out.size;have:=HB2.out.size;omega
   have QF:=hW3.below ((Below.refl _ _).alloc (Nat.le_refl _) (.cells #[.int .i64 no,.iface 44 (.int .i64 c)] 186))
   have aL:Cu (w3.alloc (.cells #[.int .i64 no,.iface 44 (.int .i64 c)] 186)) (FB (w3.alloc (.cells #[.int .i64 no,.iface 44 (.int .i64 c)] 186)) base) (.iface 184 (.pointer (some ⟨w3.heap.size,0,none⟩))) [no] c :=
    Cu.wrap (S:=fun _=>False) (v:=.iface 44 (.int .i64 c)) (bs:=[]) (show _=_ from rfl) (fun _ h=>h.elim) no _ (fun _ h=>h.elim) ⟨Ur,_,heap_alloc_new _ _⟩ _
   have HN:=qh (Lp _ base a img tree fuel st way Ae Ab Af _ ce cb cf cw vs _ [no] c QF aL (by simp;omega) (by omega) hf)
   have HW2:=qh hW
   have sJ:Hid (∀ x,(Value.slice (some ⟨g,0,none⟩) (way++[no]).length cw).ownBlock=some x→x≠a∧(Value.slice Af st.Ag.length cf).ownBlock≠some x):=fun x hx=>⟨fun e=>BC hW.ways hW.box (by decide) (by rw [hx,e]),fun e=>Vo hW.ways hW.Ag (by decide) x hx e⟩
   clear hW hW3 QF aL XC y0 y1 y2 y3 y4 y5 y6 y7 y8 y9 z8 e1 e2 hB2
   go_upto_region 7 with first
    | (go_at_call 43;refine (Cc w3 no 44 (.int .i64 c)).mono ?_;rintro e w4 ⟨rfl,rfl⟩)
    | (go_at_call 217;refine HN.out.mono ?_;rintro e w5 ⟨⟨r5,rfl⟩,Af',cf',v',Lu,JY,R4⟩)
   have z8:=Lu.free 8
   obtain ⟨-,-,-,-,-,-,-,-,y8,-⟩:=Lu.cells
   have sK:=qh Lu
   have Qp:=qh JY
   have sM:=qh R4
   clear Lu JY R4
   have t4:Touch (Hu a st Af cf) w3 w5:=(Touch.alloc _).trans Qp.out
   have hown5:w5.ownsRow base 3 1 (.slice (some ⟨g,0,none⟩) (way++[no]).length cw) (way++[no]).length (AA encI (way++[no])) :=
    BB (BB HW2.out.ways HT3.out (fun x hx=>(sJ.out x hx).1)) t4 (fun x hx h=>h.elim (sJ.out x hx).1 (sJ.out x hx).2)
   have dS:=qh (sK.out.turn hown5 rfl)
   have X9:Hid (Touch (Et a st (way++[no]) Ae ce Ab cb Af cf (some ⟨g,0,none⟩) cw) w (w5.setCell ⟨a,8,none⟩ (.slice (some ⟨g,0,none⟩) (way++[no]).length cw))) :=
    (((Touch.of_below HB2.out).trans (HT3.out.weak (fun x e=>.inl e))).trans (t4.weak (fun x h=>Hu.all h))).trans (Touch.BZ (.inl rfl))
   have NW:Hid (∀ x,Et a (Ay st ⟨way++[no],c⟩) (way++[no]) Ae ce Ab cb Af' cf' (some ⟨g,0,none⟩) cw x→Et a st (way++[no]) Ae ce Ab cb Af cf (some ⟨g,0,none⟩) cw x∨w.heap.size≤x):=fun x hx=>by
    rcases hx with h|h|h|h|h
    · exact .inl (.inl h)
    · exact .inl (.inr (.inl h))
    · exact .inl (.inr (.inr (.inl h)))
    · have hfl:(Ay st ⟨way++[no],c⟩).Ag.length=st.Ag.length+1:=by simp [Ay]
      rw [hfl] at h
      rcases sM.out x h with h|h
      · exact .inl (.inr (.inr (.inr (.inl h))))
      · right
        have:=HT3.out.size
        have:=HB2.out.size
        simp at h
        omega
    · exact .inl (.inr (.inr (.inr (.inr h))))
   rw [hwl] at dS X9
   clear t4 hown5
   go_wp2_with fail
   have hfin:=(⟨_,_,_,_,_,_,_,_,_,dS.out,X9.out,NW.out⟩:After w (w5.setCell ⟨a,8,none⟩ (.slice (some ⟨g,0,none⟩) (way.length+1) cw)) base a img tree fuel st (Ay st ⟨way++[no],c⟩) (way++[no]) Ae Ab Af (some ⟨g,0,none⟩) ce cb cf cw)
   exact ⟨rfl,_,results_none rfl _ _ _,⟨_,rfl⟩,hfin⟩
end
section
open Go.RowKit Go.Shelf
attribute [local go_sem] Oper.semAt_some
def Y0 (base a img:Nat) (tree fuel:Int) (bs:List UInt8) (d:Nat):Prop :=
 ∀ (w:World) (st:WS) (way:List Int) (Ae Ab Af Aw:Option Addr) (ce cb cf cw:Nat) (vs:List Value) (S:Nat→Prop) (no lo hi:Int),
  Wk w base a img tree fuel st way Ae ce Ab cb Af cf Aw cw vs→(∀ b,S b→b<w.heap.size∧¬ Et a st way Ae ce Ab cb Af cf Aw cw b)→Am w S img bs→bs.length≤140737488355328→base≤w.heap.size→DN lo hi=true →
  way.length+d=17→0≤st.looked→st.looked≤10000000→fuel≤10000000→(Ov st:Int)+64*(10000000-st.looked)≤640000000 →
  Calls Tryz.prog 206 #[.pointer (some ⟨a,0,none⟩),.int .i64 no,.agg #[.int .i64 lo,.int .i64 hi]] w fun e w'=>(∃ r,e=.returned r)∧After w w' base a img tree fuel st (BR bs tree fuel d way no (lo,hi) st) way Ae Ab Af Aw ce cb cf cw
set_option maxRecDepth 100000 in
theorem NY (base a img:Nat) (tree fuel:Int) (bs:List UInt8):∀ d,0<d→Y0 base a img tree fuel bs d
 | 0,h0=>by omega
 | d+1,_=>by
  intro w st way Ae Ab Af Aw ce cb cf cw vs S no lo hi h hS hi' hl hbase hr hd hlk hlk2 hfu hsz
  have IH:=qh (fun h=>NY base a img tree fuel bs d h)
  have j3:st.Ag.length≤1000000000:=by unfold Ov at hsz;omega
  have halt:=h.box.lt
  have UH:=qh h.oD
  have hx:=AL.new w #[.int .i64 lo,.int .i64 hi] 332
  have hB1:Below w.heap.size w (w.alloc (.cells #[.int .i64 lo,.int .i64 hi] 332)):=(Below.refl _ _).alloc (Nat.le_refl _) _
  have h1:=h.below hB1
  go_enter Tryz.func206,Tryz.ntmps206
  go_upto_region 1 with fail
  generalize w.alloc (.cells #[.int .i64 lo,.int .i64 hi] 332)=w1 at *
  obtain ⟨y0,y1,y2,y3,y4,y5,y6,y7,y8,y9⟩:=h1.cells
  have sV:=h1.box.lt
  by_cases hfl:fuel≤st.looked
  · have hd1:decide (st.looked ≥ fuel)=true:=decide_eq_true hfl
    have hd2:decide (fuel≤st.looked)=true:=decide_eq_true hfl
    have HV:Hid (BR bs tree fuel (d+1) way no (lo,hi) st={ Ay st ⟨way++[no],12⟩ with UB:=true }):=by
     show _=_
     unfold BR
     rw [if_pos hfl]
    clear h hi' IH hfl
    go_quiet (fail)
    have HB1:Hid (Below w.heap.size w (w1.drewN nq)):=AV hB1 _
    have h1:Wk (w1.drewN nq) base a img tree fuel st way Ae ce Ab cb Af cf Aw cw vs:=h1.below (AV (Below.refl _ _) _)
    have j4:base≤(w1.drewN nq).heap.size:=by have:=HB1.out.size;omega
    generalize w1.drewN nq=w2 at *
    have QF:=h1.below ((Below.refl _ _).alloc (Nat.le_refl _) (.cells #[.int .i64 no,.iface 44 (.int .i64 12)] 186))
    have aL:Cu (w2.alloc (.cells #[.int .i64 no,.iface 44 (.int .i64 12)] 186)) (FB (w2.alloc (.cells #[.int .i64 no,.iface 44 (.int .i64 12)] 186)) base) (.iface 184 (.pointer (some ⟨w2.heap.size,0,none⟩))) [no] 12 :=
     Cu.wrap (S:=fun _=>False) (v:=.iface 44 (.int .i64 12)) (bs:=[]) (show _=_ from rfl) (fun _ h=>h.elim) no _ (fun _ h=>h.elim) ⟨j4,_,heap_alloc_new _ _⟩ _
    have HN:=qh (Lp _ base a img tree fuel st way Ae Ab Af _ ce cb cf cw vs _ [no] 12 QF aL (by simp;omega) (by omega) j3)
    clear hx hB1 QF aL h1 y0 y1 y2 y3 y4 y5 y6 y7 y8 y9
    go_upto_region 3 with first
     | (go_at_call 43;refine (Cc w2 no 44 (.int .i64 12)).mono ?_;rintro e w4 ⟨rfl,rfl⟩)
     | (go_at_call 217;refine HN.out.mono ?_;rintro e w5 ⟨⟨r5,rfl⟩,Af',cf',v',Lu,JY,R4⟩)
    have z9:=Lu.free 9
    obtain ⟨-,-,-,-,-,-,-,-,-,y9⟩:=Lu.cells
    have dS:=qh (Lu.YL 9 (.bool true) { Ay st ⟨way++[no],12⟩ with UB:=true } rfl rfl rfl rfl)
    have X9:Hid (Touch (Et a st way Ae ce Ab cb Af cf Aw cw) w (w5.setCell ⟨a,9,none⟩ (.bool true))) :=
     (((Touch.of_below HB1.out).trans (Touch.alloc _)).trans (JY.weak (fun x h=>Hu.all h))).trans (Touch.BZ (.inl rfl))
    have NW:Hid (∀ x,Et a { Ay st ⟨way++[no],12⟩ with UB:=true } way Ae ce Ab cb Af' cf' Aw cw x→Et a st way Ae ce Ab cb Af cf Aw cw x∨w.heap.size≤x):=fun x hx=>by
     rcases hx with h|h|h|h|h
     · exact .inl (.inl h)
     · exact .inl (.inr (.inl h))
     · exact .inl (.inr (.inr (.inl h)))
     · have hfl:(Ay st ⟨way++[no],12⟩).Ag.length=st.Ag.length+1:=by simp [Ay]
       dsimp only at h
       rw [hfl] at h
       rcases R4 x h with h|h
       · exact .inl (.inr (.inr (.inr (.inl h))))
       · right
         have:=HB1.out.size
         simp at h
         omega
     · exact .inl (.inr (.inr (.inr (.inr h))))
    clear Lu JY R4
    go_wp2_with fail
    first
     | exact bodyPost_ret (results_none rfl _ _ _) rfl ⟨⟨_,rfl⟩,by rw [HV.out];exact ⟨_,_,_,_,_,_,_,_,_,dS.out,X9.out,NW.out⟩⟩
     | exact ⟨rfl,_,results_none rfl _ _ _,⟨_,rfl⟩,by rw [HV.out];exact ⟨_,_,_,_,_,_,_,_,_,dS.out,X9.out,NW.out⟩⟩
  · have hd1:decide (st.looked ≥ fuel)=false:=decide_eq_false hfl
    have hd2:decide (fuel≤st.looked)=false:=decide_eq_false hfl
    have HV:Hid (BR bs tree fuel (d+1) way no (lo,hi) st=if Di bs tree st.deep way no lo hi≠0 then Ay { st with looked:=st.looked+1 } ⟨way++[no],Di bs tree st.deep way no lo hi⟩
     else if (nodeAt bs no).leaf=true then { st with looked:=st.looked+1,Aa:=st.Aa++[no],deep:=way.length+1,BA:=st.BA++Bh (nodeAt bs no) no }
     else EK (BR bs tree fuel d (way++[no])) way no ((spansOf hi (nodeAt bs no).keys).zip (nodeAt bs no).vals) { st with looked:=st.looked+1,Aa:=st.Aa++[no] }):=by
     show _=_
     conv=>lhs;unfold BR
     rw [if_neg hfl]
    have HI:=qh (hi'.below hB1 (fun b hb=>(hS b hb).1))
    have HI':=qh hi'
    clear hfl h hi'
    go_quiet (fail)
    have HB1:Hid (Below w.heap.size w (w1.drewN nq)):=AV hB1 _
    have h1:Wk (w1.drewN nq) base a img tree fuel st way Ae ce Ab cb Af cf Aw cw vs:=h1.below (AV (Below.refl _ _) _)
    have HI2:=qh (HI.out.below (w':=w1.drewN nq) (AV (Below.refl _ _) _) (fun b hb=>by have:=(hS b hb).1;have:=hB1.size;omega))
    have x0:(w1.drewN nq).cell? ⟨w.heap.size,0,none⟩=some (.int .i64 lo):=hx.at 0 _ rfl
    have x1:(w1.drewN nq).cell? ⟨w.heap.size,1,none⟩=some (.int .i64 hi):=hx.at 1 _ rfl
    have HX:Hid (AL (w1.drewN nq) w.heap.size #[.int .i64 lo,.int .i64 hi] 332):=hx
    have j4:base≤(w1.drewN nq).heap.size:=by have:=HB1.out.size;omega
    have hws:w.heap.size≤(w1.drewN nq).heap.size:=HB1.out.size
    clear hx hB1 y0 y1 y2 y3 y4 y5 y6 y7 y8 y9 HI sV
    generalize w1.drewN nq=w2 at *
    have sW:=qh (Wz w2 base a img tree fuel st way Ae Ab Af Aw ce cb cf cw vs S bs no lo hi h1 (fun b hb=>⟨by have:=(hS b hb).1;omega,fun e=>(hS b hb).2 (.inl e)⟩) HI2.out hl hr (by omega) ⟨hlk,by omega⟩)
    have H1:=qh h1
    clear h1
    go_upto_region 5 with (go_at_call 218;refine sW.out.mono ?_;rintro e w3 ⟨t,lf,Ak,nk,ck,Av,nv,cv,ev,rfl,HN,HE,HB3⟩)
    have hz:(w2.setCell ⟨a,3,none⟩ (.int .i64 (st.looked+1))).heap.size=w2.heap.size:=by simp [World.setCell]
    have hW3:Wk w3 base a img tree fuel { st with looked:=st.looked+1 } way Ae ce Ab cb Af cf Aw cw vs:=(H1.out.YL 3 (.int .i64 (st.looked+1)) { st with looked:=st.looked+1 } rfl rfl rfl rfl).below (by rw [hz];exact HB3.out)
    have j5:w2.heap.size≤w3.heap.size:=by have:=HB3.out.size;rw [hz] at this;exact this
    have HT3:Hid (Touch (Et a st way Ae ce Ab cb Af cf Aw cw) w w3):=((Touch.of_below HB1.out).trans (Touch.BZ (.inl rfl))).trans ⟨HB3.out.os,HB3.out.tape,HB3.out.output,by rw [hz];exact j5,fun x hx _=>HB3.out.block x (by rw [hz] at hx;exact hx)⟩
    have QF:=hW3.below ((Below.refl _ _).alloc (Nat.le_refl _) (.cells #[.int .i64 t,.bool lf,.slice Ak nk ck,.slice Av nv cv] 125))
    have HG:=qh (AL.new w3 #[.int .i64 t,.bool lf,.slice Ak nk ck,.slice Av nv cv] 125)
    by_cases hle:Di bs tree st.deep way no lo hi≠0
    · have iL:Cu w3 (FB w3 w2.heap.size) ev [no] (Di bs tree st.deep way no lo hi):=by
        have:=HE.out
        unfold Bf at this
        rwa [if_neg hle] at this
      obtain ⟨ty,u,rfl,_⟩:=iL.form
      have MQ:=qh (HV.out.trans (if_pos hle))
      generalize Di bs tree st.deep way no lo hi=c at *
      obtain ⟨w4,hw4⟩:∃ x,w3.alloc (.cells #[.int .i64 t,.bool lf,.slice Ak nk ck,.slice Av nv cv] 125)=x:=⟨_,rfl⟩
      have hB4:Below w3.heap.size w3 w4:=by rw [← hw4];exact (Below.refl _ _).alloc (Nat.le_refl _) _
      rw [hw4] at QF
      rw [hw4]
      have aL:Cu w4 (FB w4 base) (.iface ty u) [no] c:=iL.keep (fun b hb=>⟨by have:=hb.1;omega,(QC hb hB4).2⟩) (AR hB4 (fun b hb=>hb.lt))
      have HN9:=qh (Lp w4 base a img tree fuel { st with looked:=st.looked+1 } way Ae Ab Af _ ce cb cf cw vs _ [no] c QF aL (by have:=hB4.size;omega) (by omega) j3)
      have P9:Hid (Touch (Et a st way Ae ce Ab cb Af cf Aw cw) w w4):=HT3.out.trans (Touch.of_below hB4)
      have AAG:w.heap.size≤w4.heap.size:=P9.out.size
      clear hW3 QF iL aL hB4 HN HE HG IH HB3 sW HI2
      go_wp2_with (go_at_call 217;refine HN9.out.mono ?_;rintro e w5 ⟨⟨r5,rfl⟩,Af',cf',v',Lu,JY,R4⟩)
      have hfin:After w w5 base a img tree fuel st (BR bs tree fuel (d+1) way no (lo,hi) st) way Ae Ab Af Aw ce cb cf cw:=by
       rw [MQ.out]
       refine ⟨_,_,_,_,_,_,_,_,_,Lu,P9.out.trans (JY.weak (fun x h=>Hu.all (st:=st) h)),fun x hx=>?_⟩
       rcases hx with h|h|h|h|h
       · exact .inl (.inl h)
       · exact .inl (.inr (.inl h))
       · exact .inl (.inr (.inr (.inl h)))
       · have hfl:(Ay { st with looked:=st.looked+1 } ⟨way++[no],c⟩).Ag.length=st.Ag.length+1:=by simp [Ay]
         rw [hfl] at h
         rcases R4 x h with h|h
         · exact .inl (.inr (.inr (.inr (.inl h))))
         · right;omega
       · exact .inl (.inr (.inr (.inr (.inr h))))
      first
       | exact bodyPost_ret (results_none rfl _ _ _) rfl ⟨⟨_,rfl⟩,hfin⟩
       | exact ⟨rfl,_,results_none rfl _ _ _,⟨_,rfl⟩,hfin⟩
    · have hl0:Di bs tree st.deep way no lo hi=0:=Decidable.not_not.1 hle
      have hnil:ev=.nilIface:=by
       have:=HE.out
       unfold Bf at this
       rwa [if_pos hl0] at this
      subst hnil
      have MQ:=qh (HV.out.trans (if_neg hle))
      have hnd:=HN.out hl0
      obtain ⟨hna,hw16,hall⟩:=LJ hl0
      obtain ⟨kv,vv,hv,hks,hvs⟩:=hnd
      simp at hv
      obtain ⟨-,hlf,sG,hvv⟩:=hv
      subst sG hvv
      obtain ⟨j6,hlen⟩:(nodeAt bs no).keys.length≤18∧(nodeAt bs no).keys.length=(nodeAt bs no).vals.length:=LH (F3 hna)
      obtain ⟨w4,hw4⟩:∃ x,w3.alloc (.cells #[.int .i64 t,.bool lf,.slice Ak nk ck,.slice Av nv cv] 125)=x:=⟨_,rfl⟩
      have hB4:Below w3.heap.size w3 w4:=by rw [← hw4];exact (Below.refl _ _).alloc (Nat.le_refl _) _
      rw [hw4] at QF HG
      rw [hw4]
      have hs4:w4.heap.size=w3.heap.size+1:=by rw [← hw4];simp
      have P9:Hid (Touch (Et a st way Ae ce Ab cb Af cf Aw cw) w w4):=HT3.out.trans (Touch.of_below hB4)
      have ji:a≠w.heap.size:=by omega
      have Qr:Hid (AL w4 w.heap.size #[.int .i64 lo,.int .i64 hi] 332):=((HX.out.far ji 3 (.int .i64 (st.looked+1))).below HB3.out (HX.out.lt)).below hB4 (by have:=HX.out.lt;omega)
      have X3:Hid (BV w4 (Fu w2.heap.size w3.heap.size) (.slice Ak nk ck) (nodeAt bs no).keys):=hks.keep (AB _) (fun _ h=>h) (AR hB4 (fun b hb=>hb.2))
      have dV:Hid (Jw w4 (Fu w2.heap.size w3.heap.size) (.slice Av nv cv) (nodeAt bs no).vals):=hvs.keep (AB _) (fun _ h=>h) (AR hB4 (fun b hb=>hb.2))
      have jc:=qh QF
      have dW:=qh j6
      have HLEN:=qh hlen
      have R5:=qh hall
      have X8:=qh hna
      have hbl:st.Aa.length≤1000000000:=by unfold Ov at hsz;omega
      have XG:=QF.Aa
      dsimp only at XG
      obtain ⟨y0,y1,y2,y3,y4,y5,y6,y7,y8,y9⟩:=QF.cells
      dsimp only at y0 y1 y2 y3 y4 y5 y6 y7 y8 y9
      have sZ:base≤w4.heap.size:=by omega
      have z1:=QF.free 1
      have si:Hid (some a≠(Value.slice Ab st.Aa.length cb).ownBlock):=BC XG QF.box (by decide)
      have kC:=QF.box.lt
      have xB:=qh hs4
      have AAH:w3.heap.size<w4.heap.size:=by omega
      clear hW3 QF hks hvs j6 hlen hall hna hB4 HB3 HN HE sW HI2 hw4 hs4
      go_upto_region 8 with (at_builtin;go_loud (refine BD Ha rfl _ _ rfl base (.slice Ab st.Aa.length cb) st.Aa.length st.Aa no rfl XG rfl (by omega) sZ ?_);intro A6 c6 w6 hown6 N7 dX;have y1:=(N7.cell_far ⟨a,1,none⟩ kC si.out).trans y1;have z1:=(N7.frozen_far ⟨a,1,none⟩ kC si.out).trans z1;have Y1:=qh (jc.out.blk hown6 N7 dX);have iC:=qh N7;have kD:=qh dX;clear hown6 N7 dX)
      have Uw:Hid (Touch (Et a st way Ae ce Ab cb Af cf Aw cw) w4 (w6.setCell ⟨a,1,none⟩ (.slice A6 (st.Aa.length+1) c6))):=(Touch.CV iC.out (fun x hx=>.inr (.inr (.inl hx)))).trans (Touch.BZ (.inl rfl))
      have Ux:Hid (∀ x,Et a { st with looked:=st.looked+1,Aa:=st.Aa++[no] } way Ae ce A6 c6 Af cf Aw cw x→Et a st way Ae ce Ab cb Af cf Aw cw x∨w4.heap.size≤x):=fun x hx=>by
       rcases hx with h|h|h|h|h
       · exact .inl (.inl h)
       · exact .inl (.inr (.inl h))
       · have dY:(st.Aa++[no]).length=st.Aa.length+1:=by simp
         dsimp only at h
         rw [dY] at h
         exact (kD.out x h).elim (fun h=>.inl (.inr (.inr (.inl h)))) .inr
       · exact .inl (.inr (.inr (.inr (.inl h))))
       · exact .inl (.inr (.inr (.inr (.inr h))))
      clear iC kD y0 y1 y2 y3 y4 y5 y6 y7 y8 y9 z1 si
      generalize w6.setCell ⟨a,1,none⟩ (.slice A6 (st.Aa.length+1) c6)=w7 at *
      have hnr:∀ b,w.heap.size≤b→¬ Et a st way Ae ce Ab cb Af cf Aw cw b:=fun b hb h=>by have:=UH.out b h;omega
      have hs7:w4.heap.size≤w7.heap.size:=Uw.out.size
      have xN:∀ b,Fu w2.heap.size w3.heap.size b→b<w7.heap.size∧¬ Et a { st with looked:=st.looked+1,Aa:=st.Aa++[no] } way Ae ce A6 c6 Af cf Aw cw b:=fun b hb=>⟨by have:=hb.2;omega,fun h=>(Ux.out b h).elim (hnr b (by have:=hb.1;omega)) (fun h=>by have:=hb.2;omega)⟩
      have dZ:=qh xN
      have xO:=qh hnr
      have WN:Hid (AL w7 w3.heap.size #[.int .i64 t,.bool lf,.slice Ak nk ck,.slice Av nv cv] 125):=(Uw.out.block (by omega) (hnr _ (by omega))).trans HG.out
      have aM:Hid (AL w7 w.heap.size #[.int .i64 lo,.int .i64 hi] 332):=(Uw.out.block (by omega) (hnr _ (by omega))).trans Qr.out
      have df:Hid (BV w7 (Fu w2.heap.size w3.heap.size) (.slice Ak nk ck) (nodeAt bs no).keys):=X3.out.keep (AB _) (fun _ h=>h) (Ap Uw.out (fun b hb=>⟨by have:=hb.2;omega,hnr b (by have:=hb.1;omega)⟩))
      have X4:Hid (Jw w7 (Fu w2.heap.size w3.heap.size) (.slice Av nv cv) (nodeAt bs no).vals):=dV.out.keep (AB _) (fun _ h=>h) (Ap Uw.out (fun b hb=>⟨by have:=hb.2;omega,hnr b (by have:=hb.1;omega)⟩))
      have dh:Hid (Touch (Et a st way Ae ce Ab cb Af cf Aw cw) w w7):=P9.out.trans Uw.out
      have kE:Hid (∀ x,Et a { st with looked:=st.looked+1,Aa:=st.Aa++[no] } way Ae ce A6 c6 Af cf Aw cw x→Et a st way Ae ce Ab cb Af cf Aw cw x∨w.heap.size≤x):=fun x hx=>(Ux.out x hx).imp id (fun h=>by omega)
      obtain ⟨n0,n1,n2,n3⟩:=WN.out.Qw
      have s0:=aM.out.at 0 _ rfl
      have s1:=aM.out.at 1 _ rfl
      clear hnr xN HG Qr X3 dV HX P9
      subst hlf
      by_cases hlf:(nodeAt bs no).leaf=true
      · have sj:=qh (MQ.out.trans (if_pos hlf))
        have wH:=qh (XE w7 base a img tree fuel _ way Ae A6 Af Aw ce c6 cf cw vs _ no t (nodeAt bs no).leaf _ _ (nodeAt bs no) Y1.out dZ.out df.out X4.out HLEN.out (by omega) (by omega) (by show st.BA.length≤_;unfold Ov at hsz;omega) (by have:=dW.out;omega))
        have kF:=hlf
        generalize (nodeAt bs no).leaf=lf at *
        subst hlf
        clear IH MQ HV
        go_wp2_with (go_at_call 219;refine wH.out.mono ?_;rintro e w9 ⟨⟨r9,rfl⟩,hLA⟩)
        have hfin:After w w9 base a img tree fuel st (BR bs tree fuel (d+1) way no (lo,hi) st) way Ae Ab Af Aw ce cb cf cw:=by
         rw [sj.out]
         obtain ⟨Ae9,ce9,dP,OP,Pw⟩:=hLA
         refine ⟨Ae9,ce9,A6,c6,Af,cf,Aw,cw,vs,dP,dh.out.trans' OP kE.out,fun x hx=>?_⟩
         rcases hx with h|h|h|h|h
         · exact .inl (.inl h)
         · rcases Pw x h with h|h
           · exact .inl (.inr (.inl h))
           · exact .inr (by have:=dh.out.size;omega)
         · exact kE.out x (.inr (.inr (.inl h)))
         · exact .inl (.inr (.inr (.inr (.inl h))))
         · exact .inl (.inr (.inr (.inr (.inr h))))
        first
         | exact bodyPost_ret (results_none rfl _ _ _) rfl ⟨⟨_,rfl⟩,hfin⟩
         | exact ⟨rfl,_,results_none rfl _ _ _,⟨_,rfl⟩,hfin⟩
      · have kF:(nodeAt bs no).leaf=false:=by simpa using hlf
        have sj:=qh (MQ.out.trans (if_neg hlf))
        generalize (nodeAt bs no).leaf=lf at *
        subst kF
        clear hlf MQ HV
        obtain ⟨y0,y1,y2,y3,y4,y5,y6,y7,y8,y9⟩:=Y1.out.cells
        dsimp only at y0 y1 y2 y3 y4 y5 y6 y7 y8 y9
        have z8:=Y1.out.free 8
        have XH:=Y1.out.ways
        have di:Hid (some a≠(Value.slice Aw way.length cw).ownBlock):=BC XH Y1.out.box (by decide)
        have dm:=Y1.out.box.lt
        have xP:way.length≤16:=by omega
        have su:base≤w7.heap.size:=by omega
        have dw:Hid (Eh lo hi (nodeAt bs no).keys=0):=(J3 hr (M5 (F3 X8.out)).1).2 R5.out
        have HN6:Hid (Ov ({ st with looked:=st.looked+1,Aa:=st.Aa++[no] }:WS)=Ov st+1):=by
         show _=_
         unfold Ov
         simp
         omega
        have kG:Hid (({ st with looked:=st.looked+1,Aa:=st.Aa++[no] }:WS).looked=st.looked+1):=rfl
        have sw:=qh Y1.out.oD
        go_upto_region 11 with (at_builtin;go_loud (refine BD Ha rfl _ _ rfl base (.slice Aw way.length cw) way.length way no rfl XH rfl (by omega) su ?_);intro A8 c8 w8 CQ Du Eu;have y8:=(Du.cell_far ⟨a,8,none⟩ dm di.out).trans y8;have z8:=(Du.frozen_far ⟨a,8,none⟩ dm di.out).trans z8;have jT:=qh (Y1.out.step CQ Du Eu);have Hg:=qh Du;have kH:=qh Eu;clear CQ Du Eu)
        have R6:Hid (Touch (Et a { st with looked:=st.looked+1,Aa:=st.Aa++[no] } way Ae ce A6 c6 Af cf Aw cw) w7 (w8.setCell ⟨a,8,none⟩ (.slice A8 (way.length+1) c8))):=(Touch.CV Hg.out (fun x hx=>.inr (.inr (.inr (.inr hx))))).trans (Touch.BZ (.inl rfl))
        have NW:Hid (∀ x,Et a { st with looked:=st.looked+1,Aa:=st.Aa++[no] } (way++[no]) Ae ce A6 c6 Af cf A8 c8 x→Et a { st with looked:=st.looked+1,Aa:=st.Aa++[no] } way Ae ce A6 c6 Af cf Aw cw x∨w7.heap.size≤x):=fun x hx=>by
         rcases hx with h|h|h|h|h
         · exact .inl (.inl h)
         · exact .inl (.inr (.inl h))
         · exact .inl (.inr (.inr (.inl h)))
         · exact .inl (.inr (.inr (.inr (.inl h))))
         · have dY:(way++[no]).length=way.length+1:=by simp
           rw [dY] at h
           exact (kH.out x h).elim (fun h=>.inl (.inr (.inr (.inr (.inr h))))) .inr
        clear Hg kH y0 y1 y2 y3 y4 y5 y6 y7 y8 y9 z8 di XH dm
        generalize Y2:({ st with looked:=st.looked+1,Aa:=st.Aa++[no] }:WS)=OQ at *
        clear Y2
        generalize w8.setCell ⟨a,8,none⟩ (.slice A8 (way.length+1) c8)=w9 at *
        have Kq:w7.heap.size≤w9.heap.size:=R6.out.size
        have hnk:=df.out.Kw.1
        have xQ:=X4.out.Kw.1
        have kI:=HLEN.out
        obtain rfl:nv=nk:=by omega
        have xR:nv≤18:=by have:=dW.out;omega
        have kJ:∀ b,b<w7.heap.size→¬ Et a OQ way Ae ce A6 c6 Af cf Aw cw b→¬ Et a OQ (way++[no]) Ae ce A6 c6 Af cf A8 c8 b:=fun b hb hn h=>(NW.out b h).elim hn (fun h=>by omega)
        have iM:∀ b,w.heap.size≤b→b<w4.heap.size→¬ Et a OQ way Ae ce A6 c6 Af cf Aw cw b:=fun b hb hb4 h=>(Ux.out b h).elim (xO.out b hb) (fun h=>by omega)
        have R7:Hid (∀ x,Et a OQ (way++[no]) Ae ce A6 c6 Af cf A8 c8 x→Et a st way Ae ce Ab cb Af cf Aw cw x∨w.heap.size≤x):=fun x hx=>(NW.out x hx).elim (fun h=>kE.out x h) (fun h=>.inr (by omega))
        have X9:Hid (Touch (Et a st way Ae ce Ab cb Af cf Aw cw) w w9):=dh.out.trans' R6.out kE.out
        have Jc:Hid (AL w9 w3.heap.size #[.int .i64 t,.bool false,.slice Ak nv ck,.slice Av nv cv] 125):=(R6.out.block (by omega) (iM _ (by omega) (by omega))).trans WN.out
        have dx:Hid (AL w9 w.heap.size #[.int .i64 lo,.int .i64 hi] 332):=(R6.out.block (by omega) (iM _ (by omega) (by omega))).trans aM.out
        have oF:Hid (BV w9 (Fu w2.heap.size w3.heap.size) (.slice Ak nv ck) (nodeAt bs no).keys):=df.out.keep (AB _) (fun _ h=>h) (Ap R6.out (fun b hb=>dZ.out b hb))
        have xS:Hid (Jw w9 (Fu w2.heap.size w3.heap.size) (.slice Av nv cv) (nodeAt bs no).vals):=X4.out.keep (AB _) (fun _ h=>h) (Ap R6.out (fun b hb=>dZ.out b hb))
        have NM:=qh (Mg w9 (Fu w2.heap.size w3.heap.size) lo hi _ _ (fun b hb=>by have:=(dZ.out b hb).1;omega) oF.out (by have:=dW.out;omega) dw.out)
        have iN:Hid (∀ b,w.heap.size≤b→b<w4.heap.size→¬ Et a OQ (way++[no]) Ae ce A6 c6 Af cf A8 c8 b):=fun b h1 h2=>kJ b (by omega) (iM b h1 h2)
        have Ke:Hid ((spansOf hi (nodeAt bs no).keys).length=nv):=by show _=_;rw [Ei];exact hnk.symm
        have kK:=qh jT.out.oD
        have xU:=qh hnk
        have Z4:=qh xQ
        obtain ⟨n0,n1,n2,n3⟩:=Jc.out.Qw
        have s0:=dx.out.at 0 _ rfl
        have s1:=dx.out.at 1 _ rfl
        clear kJ iM hnk xQ kI WN aM df X4 dh R6 dZ NW kE sw Ux xO
        go_upto_block 0 with (go_at_call 220;refine NM.out.mono ?_;rintro e D9 ⟨⟨_,rfl,⟨Asp,csp,rfl,tC,kL⟩⟩,Gt⟩;rw [Ke.out];have tF:=qh kL;have Hw:=qh Gt;clear kL Gt tC)
        have tH:=qh (jT.out.below Hw.out)
        have AAI:w9.heap.size≤D9.heap.size:=Hw.out.size
        have aN:Hid (∀ b,w9.heap.size≤b→¬ Et a OQ (way++[no]) Ae ce A6 c6 Af cf A8 c8 b):=fun b hb h=>by have:=kK.out b h;omega
        have tJ:Hid (Jw D9 (Fu w2.heap.size w3.heap.size) (.slice Av nv cv) (nodeAt bs no).vals):=xS.out.keep (AB _) (fun _ h=>h) (AR Hw.out (fun b hb=>by have:=hb.2;omega))
        have tK:Hid (AL D9 w3.heap.size #[.int .i64 t,.bool false,.slice Ak nv ck,.slice Av nv cv] 125):=Jc.out.below Hw.out (by omega)
        have QH:Hid (Touch (Et a st way Ae ce Ab cb Af cf Aw cw) w D9):=X9.out.trans (Touch.of_below Hw.out)
        have kM:=R7
        have tL:OQ.looked≤fuel:=by have:=kG.out;have:=of_decide_eq_false hd2;omega
        have tN:Hid (∀ k,k<nv→DN (nth (0,0) (spansOf hi (nodeAt bs no).keys) k).1 (nth (0,0) (spansOf hi (nodeAt bs no).keys) k).2=true):=fun k hk=>PL dw.out k (by have:=xU.out;omega)
        have HPR:Hid (∀ k,k<nv→((spansOf hi (nodeAt bs no).keys).zip (nodeAt bs no).vals).drop k=(nth (0,0) (spansOf hi (nodeAt bs no).keys) k,nth [] (nodeAt bs no).vals k) :: ((spansOf hi (nodeAt bs no).keys).zip (nodeAt bs no).vals).drop (k+1)):=fun k hk=>by
         have h1:k<(spansOf hi (nodeAt bs no).keys).length:=by rw [Ke.out];exact hk
         have h2:k<(nodeAt bs no).vals.length:=by have:=Z4.out;omega
         rw [List.drop_eq_getElem_cons (by rw [List.length_zip];omega),List.getElem_zip,AZ _ _ k h1,AZ _ _ k h2]
        have HPN:Hid (((spansOf hi (nodeAt bs no).keys).zip (nodeAt bs no).vals).drop nv=[]):=List.drop_eq_nil_of_le (by rw [List.length_zip,Ke.out];have:=Z4.out;omega)
        have HVL:Hid (∀ k,k<nv→(nth [] (nodeAt bs no).vals k).length≤24):=fun k hk=>Rz bs no _ (Ci [] _ k (by have:=Z4.out;omega))
        have AAJ:=Z4
        clear Ke dw R5 X8 oF xS Jc dx NM kK X9 Y1 jT
        generalize hpr:(spansOf hi (nodeAt bs no).keys).zip (nodeAt bs no).vals=pr at *
        clear hpr
        generalize kN:spansOf hi (nodeAt bs no).keys=sps at *
        have hsl:sps.length=nv:=by rw [← kN,Ei];exact xU.out.symm
        have Ke:=qh hsl
        clear kN hsl
        go_cut [73] (fun _ wx=>Hid (After D9 wx base a img tree fuel OQ (EK (BR bs tree fuel d (way++[no])) way no pr OQ) (way++[no]) Ae A6 Af A8 ce c6 cf c8))
        case first =>
         go_wp2_with fail
         go_loopw [73] (fun vi wr=>∃ (i:Nat) (st':WS),vi=.int .i64 i∧i≤nv∧Hid (After D9 wr base a img tree fuel OQ st' (way++[no]) Ae A6 Af A8 ce c6 cf c8)∧Hid (EK (BR bs tree fuel d (way++[no])) way no pr OQ=EK (BR bs tree fuel d (way++[no])) way no (pr.drop i) st')∧Hid (Bd fuel i OQ st')) (fun vi _=>nv-(intOf vi).toNat)
         case atStart=>exact ⟨0,OQ,rfl,Nat.zero_le _,After.jm tH.out,by show _=_;rw [List.drop_zero],⟨Int.le_refl _,fun h=>h,by simp⟩⟩
         case round =>
          obtain ⟨i,st',rfl,hi9,HA,tO,iO⟩:=hrel
          by_cases hlt:i<nv
          · obtain ⟨E',cE',B',cB',F',cF',W',cW',vs',OJ,hT,hX⟩:=HA.out
            obtain ⟨gb,ob,rfl,hgb,hq⟩:=QB tF.out (by rw [Ke.out];omega)
            obtain ⟨gv,ov,rfl,hgv,xV⟩:=K9 (tJ.out.Kw).2.2 (by have:=Z4.out;omega)
            obtain ⟨q0,q1⟩:=hq i (by rw [Ke.out];exact hlt)
            have q2:=xV i (by have:=Z4.out;omega)
            have hrs:=tN.out i hlt
            have hpr:=HPR.out i hlt
            have hvl:=HVL.out i hlt
            have xW:=hT.size
            have kP:gb<D9.heap.size:=hgb.2
            have AAK:gv<w3.heap.size:=hgv.2
            have q0:=(Ap (S:=fun b=>b=gb) hT (fun b hb=>by subst hb;exact ⟨kP,aN.out _ hgb.1⟩) gb _ rfl).trans q0
            have q1:=(Ap (S:=fun b=>b=gb) hT (fun b hb=>by subst hb;exact ⟨kP,aN.out _ hgb.1⟩) gb _ rfl).trans q1
            have q2:=(Ap (S:=fun b=>b=gv) hT (fun b hb=>by subst hb;exact ⟨by omega,iN.out _ (by have:=hgv.1;omega) (by omega)⟩) gv _ rfl).trans q2
            have hgr:AL wr w3.heap.size #[.int .i64 t,.bool false,.slice Ak nv ck,.slice (some ⟨gv,ov,none⟩) nv cv] 125:=(hT.block (by omega) (iN.out _ (by omega) (by omega))).trans tK.out
            obtain ⟨n0,n1,n2,n3⟩:=hgr.Qw
            have hiv:(i:Int)<(nv:Int):=by omega
            have dz:=QH.out.trans' hT kM.out
            obtain ⟨lo1,hi1,hx⟩:∃ p q,nth (0,0) sps i=(p,q):=⟨_,_,rfl⟩
            rw [hx] at q0 q1 hrs hpr
            dsimp only at q0 q1 hrs
            generalize nth [] (nodeAt bs no).vals i=v at *
            obtain ⟨k1,k2,k3⟩:=iO.out
            have k2:=k2 tL
            have h6l:=kG.out
            have h6w:=HN6.out
            have kQ:(way++[no]).length+d=17:=by rw [List.length_append,List.length_singleton];omega
            have xX:Hid (∀ wq,Below wr.heap.size wr wq→Calls Tryz.prog 221 #[.pointer (some ⟨a,0,none⟩),.int .i64 no,.string (BJ v),.agg #[.int .i64 lo1,.int .i64 hi1]] wq fun e w'=>(∃ r,e=.returned r)∧After wq w' base a img tree fuel st' (if (Au v).2≠0 then Ay st' ⟨way++[no],(Au v).2⟩ else BR bs tree fuel d (way++[no]) (Au v).1 (lo1,hi1) st') (way++[no]) E' B' F' W' cE' cB' cF' cW'):=fun wq aO =>
             Ut wq base a img tree fuel st' way E' B' F' W' cE' cB' cF' cW' vs' no lo1 hi1 v (fun r=>BR bs tree fuel d (way++[no]) r (lo1,hi1) st') (OJ.below aO) (by have:=aO.size;have:=dz.size;omega) (by omega) (by unfold Ov at k3 h6w hsz;omega) (by omega) (fun w1 hB1 _ =>
              IH.out (by omega) w1 st' (way++[no]) E' B' F' W' cE' cB' cF' cW' vs' S (Au v).1 lo1 hi1 (OJ.below (aO.trans (hB1.mono aO.size)))
               (fun b hb=>⟨by have:=(hS b hb).1;have:=dz.size;have:=aO.size;have:=hB1.size;omega,fun h=>(hX b h).elim (fun h=>(kM.out b h).elim (hS b hb).2 (fun h=>by have:=(hS b hb).1;omega)) (fun h=>by have:=(hS b hb).1;have:=QH.out.size;omega)⟩)
               (((HI'.out.keep (fun _ h=>h) (Ap dz hS)).below aO (fun b hb=>by have:=(hS b hb).1;have:=dz.size;omega)).below hB1 (fun b hb=>by have:=(hS b hb).1;have:=dz.size;have:=aO.size;omega)) hl (by have:=dz.size;have:=aO.size;have:=hB1.size;omega) hrs kQ (by omega) (by omega) hfu (by omega))
            have HST:Hid (EK (BR bs tree fuel d (way++[no])) way no (pr.drop i) st'=EK (BR bs tree fuel d (way++[no])) way no (((lo1,hi1),v) :: pr.drop (i+1)) st'):=by show _=_;rw [hpr]
            have qg:Hid (Bd fuel ((i:Int)+1) OQ (if (Au v).2≠0 then Ay st' ⟨way++[no],(Au v).2⟩ else BR bs tree fuel d (way++[no]) (Au v).1 (lo1,hi1) st')):=iO.out.trans (by
             split
             · exact Vx _ _ _
             · exact PM _ _ _ _ _ _ _ _)
            have nZ:Hid (∀ b,(b=w3.heap.size∨b=gv∨b=wr.heap.size)→¬ Et a st' (way++[no]) E' cE' B' cB' F' cF' W' cW' b):=fun b hb h=>by
             have h1:=OJ.oD b h
             have h2:=hX b h
             rcases hb with rfl|rfl|rfl
             · exact h2.elim (iN.out _ (by omega) (by omega)) (fun h=>by omega)
             · exact h2.elim (iN.out _ (by have:=hgv.1;omega) (by omega)) (fun h=>by omega)
             · omega
            have HT:=qh hT
            have HX:=qh hX
            have haw:=OJ.box.lt
            clear hq xV hx hpr hrs k1 k2 k3 h6l h6w OJ hT hX dz kQ hgb hgv
            go_upto_region 14 with fail
            have hb1:=AL.new wr #[.int .i64 lo1,.int .i64 hi1] 332
            have hBa:Below wr.heap.size wr (wr.alloc (.cells #[.int .i64 lo1,.int .i64 hi1] 332)):=(Below.refl _ _).alloc (Nat.le_refl _) _
            have WI:w3.heap.size<(wr.alloc (.cells #[.int .i64 lo1,.int .i64 hi1] 332)).heap.size:=by have:=hBa.size;omega
            have tQ:gv<(wr.alloc (.cells #[.int .i64 lo1,.int .i64 hi1] 332)).heap.size:=by omega
            have tV:wr.heap.size<(wr.alloc (.cells #[.int .i64 lo1,.int .i64 hi1] 332)).heap.size:=hb1.lt
            have n3:=AY hBa (by omega) n3
            have q2:=AY hBa (by omega) q2
            have b0:=hb1.at 0 _ rfl
            have b1:=hb1.at 1 _ rfl
            have R8:=qh hBa
            clear hBa hb1
            generalize wr.alloc (.cells #[.int .i64 lo1,.int .i64 hi1] 332)=wq at *
            refine AJ (T:=fun _=>false) (S:=fun w'=>w'.cell? ⟨w3.heap.size,3,none⟩=some (.slice (some ⟨gv,ov,none⟩) nv cv)∧w'.cell? ⟨gv,ov+i,none⟩=some (.string (BJ v))∧w'.cell? ⟨wr.heap.size,0,none⟩=some (.int .i64 lo1)∧w'.cell? ⟨wr.heap.size,1,none⟩=some (.int .i64 hi1)) (by kernel_rfl) (⟨n3,q2,b0,b1⟩) (fun hHeld=>?_)
            refine qs 0 78 hHeld ?_
            refine qs 1 79 hHeld ?_
            refine qs 2 80 hHeld ?_
            refine qf 3 81 rfl rfl hHeld (by intro w hSw;have n3:=hSw.1;go_simp;(try with_reducible rfl)) ?_
            refine qs 4 82 hHeld ?_
            refine qs 5 83 hHeld ?_
            refine qf 6 84 rfl rfl hHeld (by intro w hSw;have q2:=hSw.2.1;go_simp;(try with_reducible rfl)) ?_
            refine qf 7 85 rfl rfl hHeld (by intro w hSw;have b0:=hSw.2.2.1;have b1:=hSw.2.2.2;go_simp;(try with_reducible rfl)) ?_
            refine qo 8 fun K hK=>?_
            go_simp
            refine (xX.out wq.drew (R8.out.drew)).mono ?_
            rintro e YA ⟨⟨r12,rfl⟩,tX⟩
            have xY:=qh tX
            have oG:=tX.keeps nZ.out WI tQ tV
            clear tX
            have hHeld:=(show World.cell? YA ⟨w3.heap.size,3,none⟩=some (.slice (some ⟨gv,ov,none⟩) nv cv)∧World.cell? YA ⟨gv,ov+i,none⟩=some (.string (BJ v))∧World.cell? YA ⟨wr.heap.size,0,none⟩=some (.int .i64 lo1)∧World.cell? YA ⟨wr.heap.size,1,none⟩=some (.int .i64 hi1) from ⟨(oG w3.heap.size 3 (.inl rfl)).trans n3,(oG gv (ov+i) (.inr (.inl rfl))).trans q2,(oG wr.heap.size 0 (.inr (.inr rfl))).trans b0,(oG wr.heap.size 1 (.inr (.inr rfl))).trans b1⟩)
            refine hK.out _ _ (fun _=>hHeld) (fun _=>?_)
            clear hK K
            (try simp only [Act.put,qS])
            refine qd ?_
            have HA2:Hid (After D9 YA base a img tree fuel OQ (if (Au v).2≠0 then Ay st' ⟨way++[no],(Au v).2⟩ else BR bs tree fuel d (way++[no]) (Au v).1 (lo1,hi1) st') (way++[no]) Ae A6 Af A8 ce c6 cf c8):=After.Wx (HT.out.trans (Touch.of_below R8.out.drew)) HX.out xY.out
            have xZ:=qh (Lr (BR bs tree fuel d (way++[no])) way no (lo1,hi1) v (pr.drop (i+1)) st')
            generalize (if (Au v).2≠0 then Ay st' ⟨way++[no],(Au v).2⟩ else BR bs tree fuel d (way++[no]) (Au v).1 (lo1,hi1) st')=st2 at *
            obtain ⟨E2,cE2,B2,cB2,F2,cF2,W2,cW2,vs2,QI,_,_⟩:=HA2.out
            obtain ⟨-,-,-,-,-,-,-,-,-,y9⟩:=QI.cells
            clear QI xY xX n3 q2 b0 b1 q0 q1 hgr n0 n1 n2
            by_cases Uy:st2.UB=true
            · rw [Uy] at y9
              have NN:Hid (EK (BR bs tree fuel d (way++[no])) way no pr OQ=st2):=by
               show _=_
               rw [tO.out,HST.out,xZ.out,if_pos Uy]
              clear Uy
              go_wp2_with fail
              go_meet
              show Hid (After _ _ _ _ _ _ _ _ _ _ _ _ _ _ _ _ _ _)
              rw [NN.out]
              exact HA2
            · rw [show st2.UB=false by simpa using Uy] at y9
              have NN:Hid (EK (BR bs tree fuel d (way++[no])) way no pr OQ=EK (BR bs tree fuel d (way++[no])) way no (pr.drop (i+1)) st2):=by
               show _=_
               rw [tO.out,HST.out,xZ.out,if_neg Uy]
              clear Uy
              go_wp2_with fail
              go_roundw
              case rel=>exact ⟨i+1,st2,by go_num,by omega,HA2,NN,by have:=qg.out;exact this⟩
              case measure=>simp [intOf];omega
          · obtain rfl:i=nv:=by omega
            have NN:Hid (EK (BR bs tree fuel d (way++[no])) way no pr OQ=st'):=by
             show _=_
             rw [tO.out,HPN.out]
             rfl
            go_wp2_with fail
            go_meet
            show Hid (After _ _ _ _ _ _ _ _ _ _ _ _ _ _ _ _ _ _)
            rw [NN.out]
            exact HA
        case rest =>
         obtain ⟨E2,cE2,B2,cB2,F2,cF2,W2,cW2,vs2,QI,Ko,hX2⟩:=hcut.out
         have hwf:∃ g,W2=some ⟨g,0,none⟩∧(way++[no]).length=way.length+1∧way.length+1≤cW2:=by
          obtain ⟨g,cap,e,_,_,hcap⟩:=Eg QI.ways (by simp)
          injection e with e e2 e3
          subst e3
          rw [List.length_append,List.length_singleton] at hcap
          exact ⟨g,e,by simp,hcap⟩
         obtain ⟨gw,rfl,hwl,hcw⟩:=hwf
         have sI:way.length≤cW2:=by omega
         have hcw2:¬ cW2=0:=by omega
         have hcw3:(way.length:Int)≤(cW2:Int):=by omega
         have e1:IntKind.i64.wrap (((way.length+1:Nat):Int)-1)=(way.length:Int):=by rw [IntKind.wrap_i64];omega
         have e2:((way.length+1:Nat):Int)-1=(way.length:Int):=by omega
         have e3:IntKind.i64.wrap (way.length:Int)=(way.length:Int):=by rw [IntKind.wrap_i64];omega
         have hWd:=QI.below (w':=wc.drew) (Below.refl _ _).drew
         have XC:wc.drew.ownsRow base 3 1 (.slice (some ⟨gw,0,none⟩) way.length cW2) way.length (AA encI way):=by
          have h0:=hWd.ways
          rw [hwl] at h0
          have h1:=S9 h0
          rw [BK,List.take_left' (by rw [CO (size:=1) Bu,Nat.mul_one])] at h1
          exact h1
         have LX:Hid (After w (wc.drew.setCell ⟨a,8,none⟩ (.slice (some ⟨gw,0,none⟩) way.length cW2)) base a img tree fuel st (BR bs tree fuel (d+1) way no (lo,hi) st) way Ae Ab Af Aw ce cb cf cw):=by
          show After _ _ _ _ _ _ _ _ _ _ _ _ _ _ _ _ _ _
          rw [sj.out]
          refine ⟨E2,cE2,B2,cB2,F2,cF2,some ⟨gw,0,none⟩,cW2,vs2,hWd.turn XC rfl,((QH.out.trans' Ko R7.out).trans Touch.drew).trans (Touch.BZ (.inl rfl)),fun x hx=>?_⟩
          have hx2:Et a (EK (BR bs tree fuel d (way++[no])) way no pr OQ) (way++[no]) E2 cE2 B2 cB2 F2 cF2 (some ⟨gw,0,none⟩) cW2 x:=hx
          exact (hX2 x hx2).elim (fun h=>R7.out x h) (fun h=>.inr (by have:=QH.out.size;omega))
         obtain ⟨y0,y1,y2,y3,y4,y5,y6,y7,y8,y9⟩:=QI.cells
         have z8:=QI.free 8
         rw [hwl] at y8
         clear QI Ko hX2 hWd XC hcut hwl y0 y1 y2 y3 y4 y5 y6 y7 y9
         go_upto_region 17 with fail
         refine AJ (T:=fun j=>j==14) (S:=fun w'=>w'.cell? ⟨a,8,none⟩=some (.slice (some ⟨gw,0,none⟩) (way.length+1) cW2)∧w'.frozen? ⟨a,8,none⟩=false) (by kernel_rfl) (⟨y8,z8⟩) (fun hHeld=>?_)
         refine qs 0 92 hHeld ?_
         refine qs 1 93 hHeld ?_
         refine qs 2 94 hHeld ?_
         refine qs 3 95 hHeld ?_
         refine qf 4 96 rfl rfl hHeld (by intro w hSw;have y8:=hSw.1;go_simp;(try with_reducible rfl)) ?_
         refine qs 5 97 hHeld ?_
         refine qs 6 98 hHeld ?_
         refine qs 7 99 hHeld ?_
         refine qf 8 100 rfl rfl hHeld (by intro w hSw;have y8:=hSw.1;go_simp;(try with_reducible rfl)) ?_
         refine qs 9 101 hHeld ?_
         refine qs 10 102 hHeld ?_
         refine qs 11 103 hHeld ?_
         refine qo 12 fun K hK=>?_
         go_simp
         refine hK.out _ _ (fun _=>hHeld) (fun _=>?_)
         clear hK K
         (try simp only [Act.put,qS])
         refine qs 13 105 hHeld ?_
         refine qo 14 fun K hK=>?_
         have z8:=hHeld.2
         go_simp
         refine hK.out _ _ (fun h=>by cases h) (fun _=>?_)
         clear hK K hHeld
         (try simp only [Act.put,qS])
         refine qd ?_
         go_wp2_with fail
         first
          | exact bodyPost_ret (results_none rfl _ _ _) rfl ⟨⟨_,rfl⟩,LX.out⟩
          | exact ⟨rfl,_,results_none rfl _ _ _,⟨_,rfl⟩,LX.out⟩
end
section
open Go.RowKit Go.Shelf
attribute [local go_sem] Oper.semAt_some
set_option maxRecDepth 100000 in
theorem QL (w:World) (S:Nat→Prop) (img:Nat) (bs:List UInt8) (root tree fuel:Int) (hS:∀ b,S b→b<w.heap.size) (h:Am w S img bs) (hl:bs.length≤140737488355328) (hf:fuel≤9999999) :
 Calls Tryz.prog 192 #[.pointer (some ⟨img,0,none⟩),.int .i64 root,.int .i64 tree,.int .i64 fuel] w fun e w'=>(∃ v,e=.returned v∧Ex w w' v (JJ bs root tree fuel))∧Below w.heap.size w w':=by
 have HV:=qh (fun a w3 hW hS' hI hb=>NY a a img tree fuel bs 17 (by omega) w3 Zu [] none none none none 0 0 0 0 [] S root 0 281474976710656 hW hS' hI hl hb (by decide) rfl (by simp [Zu]) (by simp [Zu]) (by omega) (by simp [Ov,Zu]))
 have hb0:=AL.new w #[.slice none 0 0,.slice none 0 0,.int .i64 0,.int .i64 0,.slice none 0 0] 301
 have hB1:Below w.heap.size w (w.alloc (.cells #[.slice none 0 0,.slice none 0 0,.int .i64 0,.int .i64 0,.slice none 0 0] 301)):=(Below.refl _ _).alloc (Nat.le_refl _) _
 have hz1:(w.alloc (.cells #[.slice none 0 0,.slice none 0 0,.int .i64 0,.int .i64 0,.slice none 0 0] 301)).heap.size=w.heap.size+1:=by simp
 go_enter Tryz.func192,Tryz.ntmps192
 go_upto_region 1 with fail
 generalize w.alloc (.cells #[.slice none 0 0,.slice none 0 0,.int .i64 0,.int .i64 0,.slice none 0 0] 301)=w1 at *
 have hb1:=AL.new w1 #[.slice none 0 0,.slice none 0 0,.int .i64 0,.int .i64 0,.slice none 0 0,.pointer (some ⟨img,0,none⟩),.int .i64 tree,.int .i64 fuel,.slice none 0 0,.bool false] 329
 have hB2:Below w1.heap.size w1 (w1.alloc (.cells #[.slice none 0 0,.slice none 0 0,.int .i64 0,.int .i64 0,.slice none 0 0,.pointer (some ⟨img,0,none⟩),.int .i64 tree,.int .i64 fuel,.slice none 0 0,.bool false] 329)):=(Below.refl _ _).alloc (Nat.le_refl _) _
 have hlt1:w.heap.size<w1.heap.size:=by omega
 clear hz1
 go_upto_region 2 with fail
 generalize w1.alloc (.cells #[.slice none 0 0,.slice none 0 0,.int .i64 0,.int .i64 0,.slice none 0 0,.pointer (some ⟨img,0,none⟩),.int .i64 tree,.int .i64 fuel,.slice none 0 0,.bool false] 329)=w2 at *
 have kR:=hB1.trans (hB2.mono (Nat.le_of_lt hlt1))
 have hz2:=hb1.lt
 have hW2:Wk w2 w1.heap.size w1.heap.size img tree fuel Zu [] none 0 none 0 none 0 none 0 [] :=
  ⟨Nat.le_refl _,hb1,World.ownsRow_nil _ _ _ _,World.ownsRow_nil _ _ _ _,World.ownsRow_nil _ _ _ _,World.ownsRow_nil _ _ _ _,fun x hx=>(by cases hx),⟨rfl,fun k hk=>absurd hk (by simp [Zu])⟩⟩
 have jU:Hid (∀ b,S b→¬ Et w1.heap.size Zu [] none 0 none 0 none 0 none 0 b):=fun b hb hx=>by
  have:=hS b hb
  rcases hx with h|h|h|h|h
  · omega
  all_goals cases h
 have kS:=hb0.below hB2 hlt1
 have d9:=qh kR
 have HW2:=qh hW2
 have HB0:=qh kS
 clear hb0 hb1 hB1 hB2 hW2 kR kS
 have HI:=qh h
 go_upto_region 3 with first
  | (go_at_call 207;refine (KP w2).mono ?_;rintro e w3 ⟨rfl,hB3⟩)
  | (go_at_call 206;refine (HV.out _ w3 (HW2.out.below hB3) (fun b hb=>⟨by have:=hS b hb;have:=hB3.size;omega,jU.out b hb⟩) ((HI.out.below d9.out hS).below hB3 (fun b hb=>by have:=hS b hb;omega)) (by have:=hB3.size;omega)).mono ?_;rintro e w4 ⟨⟨r4,rfl⟩,hA⟩)
 have AAL:=hB3.size
 have HTA:Hid (Touch (fun x=>w.heap.size≤x) w w4):=by
  obtain ⟨_,_,_,_,_,_,_,_,_,_,hT,_⟩:=hA
  refine (Touch.of_below (d9.out.trans (hB3.mono (by have:=d9.out.size;exact this)))).trans (hT.weak (fun x hx=>?_))
  rcases hx with h|h|h|h|h
  · omega
  all_goals cases h
 have HA:Hid (∃ Ae ce Ab cb Af cf Aw cw vs,Wk w4 w1.heap.size w1.heap.size img tree fuel (JJ bs root tree fuel) [] Ae ce Ab cb Af cf Aw cw vs):=by
  obtain ⟨Ae,ce,Ab,cb,Af,cf,Aw,cw,vs,hW,_,_⟩:=hA
  exact ⟨Ae,ce,Ab,cb,Af,cf,Aw,cw,vs,hW⟩
 have hb4:AL w4 w.heap.size #[.slice none 0 0,.slice none 0 0,.int .i64 0,.int .i64 0,.slice none 0 0] 301:=by
  obtain ⟨_,_,_,_,_,_,_,_,_,_,hT,_⟩:=hA
  refine (hT.block (by omega) (fun hx=>?_)).trans (HB0.out.below hB3 (by omega))
  rcases hx with h|h|h|h|h
  · omega
  all_goals cases h
 generalize hst:JJ bs root tree fuel=st at *
 have HST:=qh hst
 clear hst
 clear hA hB3 HV
 obtain ⟨Ae,ce,Ab,cb,Af,cf,Aw,cw,vs,hW⟩:=HA.out
 obtain ⟨y0,y1,y2,y3,y4,-⟩:=hW.cells
 have x0:=hb4.at 0 _ rfl
 have x1:=hb4.at 1 _ rfl
 have x2:=hb4.at 2 _ rfl
 have x3:=hb4.at 3 _ rfl
 have x4:=hb4.at 4 _ rfl
 have z0:=hb4.free 0
 have z1:=hb4.free 1
 have z2:=hb4.free 2
 have z3:=hb4.free 3
 have z4:=hb4.free 4
 have hgb:w.heap.size≠w1.heap.size:=by omega
 have HW:=qh hW
 have DT:=qh (((((hb4.set 0 (.slice Ae st.BA.length ce)).set 1 (.slice Ab st.Aa.length cb)).set 2 (.int .i64 st.deep)).set 3 (.int .i64 st.looked)).set 4 (.slice Af st.Ag.length cf))
 have Qp:Hid (Touch (fun x=>x=w.heap.size) w4 (((((w4.setCell ⟨w.heap.size,0,none⟩ (.slice Ae st.BA.length ce)).setCell ⟨w.heap.size,1,none⟩ (.slice Ab st.Aa.length cb)).setCell ⟨w.heap.size,2,none⟩ (.int .i64 st.deep)).setCell ⟨w.heap.size,3,none⟩ (.int .i64 st.looked)).setCell ⟨w.heap.size,4,none⟩ (.slice Af st.Ag.length cf))) :=
  I6 w4 w.heap.size _ _ _ _ _
 have EQ:=qh hb4
 clear hW HA hb4
 go_wp2_with fail
 generalize ((((w4.setCell ⟨w.heap.size,0,none⟩ (.slice Ae st.BA.length ce)).setCell ⟨w.heap.size,1,none⟩ (.slice Ab st.Aa.length cb)).setCell ⟨w.heap.size,2,none⟩ (.int .i64 st.deep)).setCell ⟨w.heap.size,3,none⟩ (.int .i64 st.looked)).setCell ⟨w.heap.size,4,none⟩ (.slice Af st.Ag.length cf)=w5 at *
 have r0:=DT.out.at 0 (.slice Ae st.BA.length ce) rfl
 have r1:=DT.out.at 1 (.slice Ab st.Aa.length cb) rfl
 have r2:=DT.out.at 2 (.int .i64 st.deep) rfl
 have r3:=DT.out.at 3 (.int .i64 st.looked) rfl
 have r4:=DT.out.at 4 (.slice Af st.Ag.length cf) rfl
 have hW:=HW.out
 have hlow:=fun b (hb:w1.heap.size≤b) (e:b=w.heap.size)=>by omega
 have JY:=Qp.out
 have hkb:∀ b,FB w4 w1.heap.size b→FB w5 w1.heap.size b:=fun b hb=>⟨hb.1,by obtain ⟨cs,h⟩:=hb.2;exact ⟨cs,(JY.block hb.lt (fun e=>by have:=hb.1;omega)).trans h⟩⟩
 have hkk:CU (FB w4 w1.heap.size) w4 w5:=Ap JY (fun b hb=>⟨hb.lt,fun e=>by have:=hb.1;omega⟩)
 have BX:Below w.heap.size w w5:=(HTA.out.trans (JY.weak (fun x e=>by omega))).below (fun x h=>h) (Nat.le_refl _)
 refine bodyPost_ret (v:=.agg #[.slice Ae st.BA.length ce,.slice Ab st.Aa.length cb,.int .i64 st.deep,.int .i64 st.looked,.slice Af st.Ag.length cf]) (by simp [results,Tryz.results192,go_sem,r0,r1,r2,r3,r4]) rfl ⟨⟨_,rfl,?_⟩,BX⟩
 rw [HST.out]
 refine ⟨Ae,ce,Ab,cb,Af,cf,vs,rfl,?_,?_,?_,?_⟩
 · exact (BB hW.BA JY (fun x hx e=>by have:=(hW.BA.lt x hx).1;omega)).mono (Nat.le_of_lt hlt1)
 · exact (BB hW.Aa JY (fun x hx e=>by have:=(hW.Aa.lt x hx).1;omega)).mono (Nat.le_of_lt hlt1)
 · exact (BB hW.Ag JY (fun x hx e=>by have:=(hW.Ag.lt x hx).1;omega)).mono (Nat.le_of_lt hlt1)
 · exact hW.errs.keep (fun b hb=>⟨Nat.le_trans (Nat.le_of_lt hlt1) hb.1,(hkb b hb).2⟩) hkk
end
section
open Go.RowKit Go.Shelf
attribute [local go_sem] Oper.semAt_some
set_option maxRecDepth 100000 in
theorem Uz (w:World) (base:Nat) (Af:Option Addr) (cf:Nat) (vs:List Value) (l:List Tt) (h:w.ownsRow base 27 1 (.slice Af l.length cf) l.length vs) (hf:GL w (FB w base) vs l) (hok:∀ x∈l,x.code≠0) :
 Calls Tryz.prog 151 #[.slice Af l.length cf] w fun e w'=>(∃ ev,e=.returned ev∧Bf w (FB w base) ev (nth ⟨[],0⟩ l 0))∧w'=w:=by
 cases l with
 | nil =>
  simp only [List.length_nil] at h ⊢
  clear h hf hok
  go_enter Tryz.func151,Tryz.ntmps151
  go_wp2_with fail
  go_loop [7] (fun i=>i=.int .i64 0) (fun _=>0)
  case atStart=>rfl
  case round =>
   subst hrel
   go_wp2_with fail
   go_ret
   exact ⟨⟨_,rfl,Bf.DW⟩,rfl⟩
 | cons x r =>
  rw [List.length_cons] at h ⊢
  obtain ⟨g,rfl,hg,hc,hsrc⟩:=BS h (by omega)
  have he:=hf.2 0 (by simp)
  rw [FZ] at he ⊢
  have hl:vs.length=r.length+1:=by rw [hf.1];simp
  have c0:=hsrc 0 (nth .nilIface vs 0) (by rw [AZ _ _ 0 (by omega)];exact List.getElem?_eq_getElem (by omega))
  obtain ⟨ty,u,hv,_⟩:=he.form
  rw [hv] at he c0
  rw [add_lit,Nat.zero_add] at c0
  have HE:Hid (Bf w (FB w base) (.iface ty u) x):=by
   show Bf _ _ _ _
   unfold Bf
   rw [if_neg (hok x (by simp))]
   exact he
  generalize r.length=n at *
  clear h hf hok hsrc he hv hl
  go_enter Tryz.func151,Tryz.ntmps151
  go_wp2_with fail
  go_loop [7] (fun i=>i=.int .i64 0) (fun _=>0)
  case atStart=>rfl
  case round =>
   subst hrel
   have hn1:(0:Int)<(n:Int)+1:=by omega
   go_wp2_with fail
   go_ret
   exact ⟨⟨_,rfl,HE.out⟩,rfl⟩
set_option maxRecDepth 100000 in
theorem U0 (w:World) (S:Nat→Prop) (img:Nat) (bs:List UInt8) (root tree fuel:Int) (hS:∀ b,S b→b<w.heap.size) (h:Am w S img bs) (hl:bs.length≤140737488355328) (hf:fuel≤9999999) :
 Calls Tryz.prog 198 #[.pointer (some ⟨img,0,none⟩),.int .i64 root,.int .i64 tree,.int .i64 fuel] w fun e w'=>Y4 w w' e (JJ bs root tree fuel)∧Below w.heap.size w w':=by
 have X0:=qh (Y3 bs root tree fuel)
 have hb0:=AL.new w #[.slice none 0 0,.slice none 0 0,.int .i64 0,.int .i64 0,.slice none 0 0] 301
 have hB1:Below w.heap.size w (w.alloc (.cells #[.slice none 0 0,.slice none 0 0,.int .i64 0,.int .i64 0,.slice none 0 0] 301)):=(Below.refl _ _).alloc (Nat.le_refl _) _
 go_enter Tryz.func198,Tryz.ntmps198
 go_upto_region 1 with fail
 generalize w.alloc (.cells #[.slice none 0 0,.slice none 0 0,.int .i64 0,.int .i64 0,.slice none 0 0] 301)=w1 at *
 have XI:=qh (QL w1 S img bs root tree fuel (fun b hb=>Nat.lt_of_lt_of_le (hS b hb) hB1.size) (h.below hB1 hS) hl hf)
 generalize hst:JJ bs root tree fuel=st at *
 have HST:=qh hst
 have HB1:=qh hB1
 have HB0:=qh hb0
 clear hst h hS hl hf hB1 hb0
 go_upto_region 2 with (go_at_call 192;refine XI.out.mono ?_;rintro e w2 ⟨⟨_,rfl,Ae,ce,Ab,cb,Af,cf,vs,rfl,h1,h2,h3,h4⟩,hB2⟩;have HR1:=qh h1;have HR2:=qh h2;have HR3:=qh h3;have HF:=qh h4;have HB2:=qh hB2;clear h1 h2 h3 h4 hB2)
 have hg2:=AL.new w2 #[.slice Ae st.BA.length ce,.slice Ab st.Aa.length cb,.int .i64 st.deep,.int .i64 st.looked,.slice Af st.Ag.length cf] 301
 have hB3:Below w2.heap.size w2 (w2.alloc (.cells #[.slice Ae st.BA.length ce,.slice Ab st.Aa.length cb,.int .i64 st.deep,.int .i64 st.looked,.slice Af st.Ag.length cf] 301)):=(Below.refl _ _).alloc (Nat.le_refl _) _
 have tY:=HB2.out.size
 have hlt:=HB0.out.lt
 have hb3:=(HB0.out.below HB2.out hlt).below hB3 (by omega)
 have xc:Ex w1 w2 (.agg #[.slice Ae st.BA.length ce,.slice Ab st.Aa.length cb,.int .i64 st.deep,.int .i64 st.looked,.slice Af st.Ag.length cf]) st :=
  ⟨Ae,ce,Ab,cb,Af,cf,vs,rfl,HR1.out,HR2.out,HR3.out,HF.out⟩
 have eB:=xc.below hB3
 generalize w2.alloc (.cells #[.slice Ae st.BA.length ce,.slice Ab st.Aa.length cb,.int .i64 st.deep,.int .i64 st.looked,.slice Af st.Ag.length cf] 301)=w3 at *
 have NN:Hid (Calls Tryz.prog 151 #[.slice Af st.Ag.length cf] w3 fun e w'=>(∃ ev,e=.returned ev∧Bf w3 (FB w3 w1.heap.size) ev (J8 st))∧w'=w3):=by
  obtain ⟨Ae',ce',Ab',cb',Af',cf',vs',e,h1,h2,h3,h4⟩:=eB
  injection e with e
  simp at e
  obtain ⟨-,-,rfl,rfl⟩:=e
  exact Uz w3 w1.heap.size Af cf vs' st.Ag h3 h4 X0.out
 obtain ⟨g0,g1,g2,g3,g4⟩:w3.cell? ⟨w2.heap.size,0,none⟩=some (.slice Ae st.BA.length ce)∧w3.cell? ⟨w2.heap.size,1,none⟩=some (.slice Ab st.Aa.length cb)∧w3.cell? ⟨w2.heap.size,2,none⟩=some (.int .i64 st.deep)∧w3.cell? ⟨w2.heap.size,3,none⟩=some (.int .i64 st.looked)∧w3.cell? ⟨w2.heap.size,4,none⟩=some (.slice Af st.Ag.length cf):=⟨hg2.at 0 _ rfl,hg2.at 1 _ rfl,hg2.at 2 _ rfl,hg2.at 3 _ rfl,hg2.at 4 _ rfl⟩
 have x0:=hb3.at 0 _ rfl
 have x1:=hb3.at 1 _ rfl
 have x2:=hb3.at 2 _ rfl
 have x3:=hb3.at 3 _ rfl
 have x4:=hb3.at 4 _ rfl
 have z0:=hb3.free 0
 have z1:=hb3.free 1
 have z2:=hb3.free 2
 have z3:=hb3.free 3
 have z4:=hb3.free 4
 have jH:=qh eB
 have HB3:=qh (HB1.out.trans ((HB2.out.trans (hB3.mono HB2.out.size)).mono HB1.out.size))
 have DL:=qh hb3
 clear hg2 hB3 hb3 xc eB HR1 HR2 HR3 HF X0 HB0 HB2 XI
 by_cases hc:(J8 st).code=0
 · have kT:Hid (Calls Tryz.prog 151 #[.slice Af st.Ag.length cf] w3 fun e w'=>e=.returned .nilIface∧w'=w3):=NN.out.mono fun e w' ⟨⟨ev,he,hi⟩,hw⟩=>by
     unfold Bf at hi
     rw [if_pos hc] at hi
     exact ⟨by rw [he,hi],hw⟩
   have HC:=qh hc
   have DT:=qh (((((DL.out.set 0 (.slice Ae st.BA.length ce)).set 1 (.slice Ab st.Aa.length cb)).set 2 (.int .i64 st.deep)).set 3 (.int .i64 st.looked)).set 4 (.slice Af st.Ag.length cf))
   have Qp:=qh (I6 w3 w.heap.size (.slice Ae st.BA.length ce) (.slice Ab st.Aa.length cb) (.int .i64 st.deep) (.int .i64 st.looked) (.slice Af st.Ag.length cf))
   clear hc NN DL
   go_wp2_with (go_at_call 151;refine kT.out.mono ?_;rintro e w3 ⟨rfl,rfl⟩)
   generalize ((((w3.setCell ⟨w.heap.size,0,none⟩ (.slice Ae st.BA.length ce)).setCell ⟨w.heap.size,1,none⟩ (.slice Ab st.Aa.length cb)).setCell ⟨w.heap.size,2,none⟩ (.int .i64 st.deep)).setCell ⟨w.heap.size,3,none⟩ (.int .i64 st.looked)).setCell ⟨w.heap.size,4,none⟩ (.slice Af st.Ag.length cf)=w5 at *
   have r0:=DT.out.at 0 (.slice Ae st.BA.length ce) rfl
   have r1:=DT.out.at 1 (.slice Ab st.Aa.length cb) rfl
   have r2:=DT.out.at 2 (.int .i64 st.deep) rfl
   have r3:=DT.out.at 3 (.int .i64 st.looked) rfl
   have r4:=DT.out.at 4 (.slice Af st.Ag.length cf) rfl
   refine bodyPost_ret (v:=.tuple #[.agg #[.slice Ae st.BA.length ce,.slice Ab st.Aa.length cb,.int .i64 st.deep,.int .i64 st.looked,.slice Af st.Ag.length cf],.nilIface]) (by simp [results,Tryz.results198,go_sem,r0,r1,r2,r3,r4]) rfl ⟨?_,HB3.out.trans ((Qp.out.weak (R':=fun x=>w.heap.size≤x) (fun x e=>by omega)).below (fun x h=>h) (by have:=HB3.out.size;omega))⟩
   rw [HST.out]
   refine ⟨_,_,rfl,?_,?_⟩
   · unfold Bf;rw [if_pos HC.out]
   · rw [if_pos HC.out];exact (jH.out.touch Qp.out hlt).base HB1.out.size
 · have kT:Hid (Calls Tryz.prog 151 #[.slice Af st.Ag.length cf] w3 fun e w'=>(∃ ty u,e=.returned (.iface ty u)∧Bf w3 (FB w3 w1.heap.size) (.iface ty u) (J8 st))∧w'=w3):=NN.out.mono fun e w' ⟨⟨ev,he,hi⟩,hw⟩=>by
     have h0:=hi
     unfold Bf at hi
     rw [if_neg hc] at hi
     obtain ⟨ty,u,rfl,_⟩:=hi.form
     exact ⟨⟨ty,u,he,h0⟩,hw⟩
   have HC:=qh hc
   have DT:=qh (((((DL.out.set 0 (.slice none 0 0)).set 1 (.slice none 0 0)).set 2 (.int .i64 0)).set 3 (.int .i64 0)).set 4 (.slice none 0 0))
   have Qp:=qh (I6 w3 w.heap.size (.slice none 0 0) (.slice none 0 0) (.int .i64 0) (.int .i64 0) (.slice none 0 0))
   clear hc NN DL
   go_wp2_with (go_at_call 151;refine kT.out.mono ?_;rintro e w3 ⟨⟨ty,u,rfl,hev⟩,rfl⟩;have HEV:=qh hev;clear hev)
   generalize ((((w3.setCell ⟨w.heap.size,0,none⟩ (.slice none 0 0)).setCell ⟨w.heap.size,1,none⟩ (.slice none 0 0)).setCell ⟨w.heap.size,2,none⟩ (.int .i64 0)).setCell ⟨w.heap.size,3,none⟩ (.int .i64 0)).setCell ⟨w.heap.size,4,none⟩ (.slice none 0 0)=w5 at *
   have r0:=DT.out.at 0 (.slice none 0 0) rfl
   have r1:=DT.out.at 1 (.slice none 0 0) rfl
   have r2:=DT.out.at 2 (.int .i64 0) rfl
   have r3:=DT.out.at 3 (.int .i64 0) rfl
   have r4:=DT.out.at 4 (.slice none 0 0) rfl
   refine bodyPost_ret (v:=.tuple #[OT,.iface ty u]) (by simp [results,Tryz.results198,go_sem,r0,r1,r2,r3,r4,OT]) rfl ⟨?_,HB3.out.trans ((Qp.out.weak (R':=fun x=>w.heap.size≤x) (fun x e=>by omega)).below (fun x h=>h) (by have:=HB3.out.size;omega))⟩
   rw [HST.out]
   obtain ⟨k1,k2⟩:=QK (base:=w1.heap.size) Qp.out hlt
   refine ⟨_,_,rfl,(HEV.out.keep k1 k2).keep (fun b hx=>⟨Nat.le_trans HB1.out.size hx.1,hx.2⟩) CU.refl,?_⟩
   rw [if_neg HC.out]
end
section
open Go.RowKit Go.Shelf
end
section
open Go.RowKit Go.Shelf
attribute [local go_sem] Oper.semAt_some
end
section
open Go.RowKit Go.Shelf
attribute [local go_sem] Oper.semAt_some
end
section
open Go Go.RowKit
end
section
open Go.RowKit Go.Shelf
end
section
open Go.RowKit Go.Shelf
end
section
open Go Go.RowKit
end
section
open Go Go.RowKit
end
section
open Go.RowKit Go.Shelf
attribute [local go_sem] Oper.semAt_some
theorem aT {F:Fence} {n:Nat} {P:Program} {fn:Func} {R:Ending→World→Prop} {a:Act} {w:World} {v:Value} {D:Nat} (hK:w.heap[D]? = some (.deferred (some []))) (hr:(results fn a.tmps).run P (w.putObj D (.deferred none))=.ok v (w.putObj D (.deferred none))) (hd:a.defers=[{ target:=.collected D,args:=#[] }]) (hR:R (.returned v) (w.putObj D (.deferred none))):bodyPostM F n P fn R .ret a w:=by
 show LeavesInM F n P fn a.tmps R a.defers .returning w
 rw [hd]
 exact ⟨by simp,.inl ⟨_,_,rfl,run_takeDeferred hK,v,hr,hR⟩⟩
end
end Go.Proofs.YthblbddmcdnllaaGreatDoor
