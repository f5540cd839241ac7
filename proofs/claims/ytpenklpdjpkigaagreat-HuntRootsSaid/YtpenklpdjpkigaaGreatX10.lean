/- A part of the proof: WChild, WVisit. -/
import Derived.Test.YtpenklpdjpkigaaGreatY21
import Derived.Test.YtpenklpdjpkigaaGreatY14
import Derived.Test.YtpenklpdjpkigaaGreatX6
import Derived.Test.YtpenklpdjpkigaaGreatX9
import Derived.Test.YtpenklpdjpkigaaGreatX7
import Derived.Deep.CutBlock
import Derived.Deep.DeepCutAuto
import Derived.Test.YtpenklpdjpkigaaGreatY1
set_option maxHeartbeats 6400000
set_option linter.unusedVariables false
set_option linter.unusedSimpArgs false
namespace Go.Proofs.YtpenklpdjpkigaaGreat
section
open Go.RowKit Go.Shelf
attribute [local go_sem] Oper.semAt_some
set_option maxRecDepth 100000 in
theorem aP (w:World) (base a img:Nat) (tree fuel:Int) (st:WS) (way:List Int) (Ae Ab Af Aw:Option Addr) (ce cb cf cw:Nat) (vs:List Value) (no lo hi:Int) (v:List UInt8) (F:Int→WS)
 (h:Wk w base a img tree fuel st (way++[no]) Ae ce Ab cb Af cf Aw cw vs) (hbase:base≤w.heap.size) (hn:way.length≤999) (hf:st.AR.length≤1000000000) (hv:v.length≤140737488355328)
 (Pk:∀ w1:World,Below w.heap.size w w1→(Aj v).2=0→Calls Tryz.prog 200 #[.pointer (some ⟨a,0,none⟩),.int .i64 (Aj v).1,.agg #[.int .i64 lo,.int .i64 hi]] w1 fun e w'=>(∃ r,e=.returned r)∧After w1 w' base a img tree fuel st (F (Aj v).1) (way++[no]) Ae Ab Af Aw ce cb cf cw) :
 Calls Tryz.prog 227 #[.pointer (some ⟨a,0,none⟩),.int .i64 no,.string (Am v),.agg #[.int .i64 lo,.int .i64 hi]] w fun e w'=>(∃ r,e=.returned r)∧After w w' base a img tree fuel st (if (Aj v).2≠0 then Ad st ⟨way++[no],(Aj v).2⟩ else F (Aj v).1) (way++[no]) Ae Ab Af Aw ce cb cf cw:=by
 obtain ⟨r,c,hrc⟩:∃ r c,Aj v=(r,c):=⟨_,_,rfl⟩
 have HRR:=qh (fun w'=>MB w' v hv)
 rw [hrc] at HRR Pk
 rw [hrc]
 dsimp only at HRR Pk ⊢
 have halt:=h.box.lt
 have hx:=AP.new w #[.int .i64 lo,.int .i64 hi] 283
 have hB1:Below w.heap.size w (w.alloc (.cells #[.int .i64 lo,.int .i64 hi] 283)):=(Below.refl _ _).alloc (Nat.le_refl _) _
 have h1:=h.below hB1
 go_enter Tryz.func227,Tryz.ntmps227
 go_upto_region 1 with fail
 generalize w.alloc (.cells #[.int .i64 lo,.int .i64 hi] 283)=w1 at *
 have x0:=hx.at 0 (.int .i64 lo) rfl
 have x1:=hx.at 1 (.int .i64 hi) rfl
 by_cases hc:c=0
 · subst hc
   have HV:=qh (fun w1 hB=>Pk w1 hB rfl)
   have HB1:=qh hB1
   have HX:=qh hx
   clear Pk h h1 hrc hB1 hx
   go_wp2_with first
    | (go_at_call 44;refine (HRR.out _).mono ?_;rintro e w2 ⟨rfl,hB2⟩;have x0:=AQ hB2 HX.out.lt x0;have x1:=AQ hB2 HX.out.lt x1;have HB2:=qh (HB1.out.trans (hB2.mono HB1.out.size));clear hB2)
    | (go_at_call 200;refine (HV.out _ HB2.out).mono ?_;rintro e w3 ⟨⟨r3,rfl⟩,hA⟩)
   exact bodyPost_ret (results_none rfl _ _ _) rfl ⟨⟨_,rfl⟩,After.iD (Touch.of_below HB2.out) (fun x h=>.inl h) hA⟩
 · have hcb:(c==0)=false:=by simpa using hc
   have h2:∀ w2,Below w1.heap.size w1 w2→Wk w2 base a img tree fuel st (way++[no]) Ae ce Ab cb Af cf Aw cw vs:=fun w2 hB=>h1.below hB
   have hwf:∃ g,Aw=some ⟨g,0,none⟩∧(way++[no]).length=way.length+1∧way.length+1≤cw:=by
    obtain ⟨g,cap,e,_,_,hcap⟩:=FV h1.ways (by simp)
    injection e with e e2 e3
    subst e3
    rw [List.length_append,List.length_singleton] at hcap
    exact ⟨g,e,by simp,hcap⟩
   obtain ⟨g,rfl,hwl,hcw⟩:=hwf
   have ACn:way.length≤cw:=by omega
   have hcw2:¬ cw=0:=by omega
   have hcw3:(way.length:Int)≤(cw:Int):=by omega
   have HB1:=qh hB1
   have H2:=qh h2
   clear Pk h h1 h2 hrc hB1 hx
   go_upto_region 4 with (go_at_call 44;refine (HRR.out _).mono ?_;rintro e w2 ⟨rfl,hB2⟩)
   have hW:=H2.out w2 hB2
   have HW:=qh hW
   obtain ⟨y0,y1,y2,y3,y4,y5,y6,y7,y8,y9⟩:=hW.cells
   have z8:=hW.free 8
   rw [hwl] at y8
   have e1:IntKind.i64.wrap (((way.length+1:Nat):Int)-1)=(way.length:Int):=by rw [IntKind.wrap_i64];omega
   have e2:((way.length+1:Nat):Int)-1=(way.length:Int):=by omega
   go_upto_region 6 with fail
   have iJ:w2.ownsRow base 3 1 (.slice (some ⟨g,0,none⟩) way.length cw) way.length (AB encI way):=by
    have h0:=hW.ways
    rw [hwl] at h0
    have h1:=YA h0
    rw [Ba,List.take_left' (by rw [Bw (size:=1) Bh,Nat.mul_one])] at h1
    exact h1
   have hW3:=hW.turn iJ rfl
   have HT3:Hid (Touch (fun x=>x=a) w2 (w2.setCell ⟨a,8,none⟩ (.slice (some ⟨g,0,none⟩) way.length cw))):=Touch.Dc rfl
   have HB2:=qh (HB1.out.trans (hB2.mono HB1.out.size))
   generalize w2.setCell ⟨a,8,none⟩ (.slice (some ⟨g,0,none⟩) way.length cw)=w3 at *
   have aO:base≤w3.heap.size:=by have:=HT3.out.size;have:=HB2.out.size;omega
   have VF:=hW3.below ((Below.refl _ _).alloc (Nat.le_refl _) (.cells #[.int .i64 no,.iface 88 (.int .i64 c)] 327))
   have iK:D7 (w3.alloc (.cells #[.int .i64 no,.iface 88 (.int .i64 c)] 327)) (FB (w3.alloc (.cells #[.int .i64 no,.iface 88 (.int .i64 c)] 327)) base) (.iface 325 (.pointer (some ⟨w3.heap.size,0,none⟩))) [no] c :=
    D7.wrap (S:=fun _=>False) (v:=.iface 88 (.int .i64 c)) (bs:=[]) (show _=_ from rfl) (fun _ h=>h.elim) no _ (fun _ h=>h.elim) ⟨aO,_,heap_alloc_new _ _⟩ _
   have HN:=qh (Pi _ base a img tree fuel st way Ae Ab Af _ ce cb cf cw vs _ [no] c VF iK (by simp;omega) (by omega) hf)
   have HW2:=qh hW
   have HWT:Hid (∀ x,(Value.slice (some ⟨g,0,none⟩) (way++[no]).length cw).ownBlock=some x→x≠a∧(Value.slice Af st.AR.length cf).ownBlock≠some x):=fun x hx=>⟨fun e=>BC hW.ways hW.box (by decide) (by rw [hx,e]),fun e=>dw hW.ways hW.AR (by decide) x hx e⟩
   clear hW hW3 VF iK iJ y0 y1 y2 y3 y4 y5 y6 y7 y8 y9 z8 e1 e2 hB2
   go_upto_region 7 with first
    | (go_at_call 151;refine (Dn w3 no 88 (.int .i64 c)).mono ?_;rintro e w4 ⟨rfl,rfl⟩)
    | (go_at_call 223;refine HN.out.mono ?_;rintro e w5 ⟨⟨r5,rfl⟩,Af',cf',v',Pm,Ja,XL⟩)
   have z8:=Pm.free 8
   obtain ⟨-,-,-,-,-,-,-,-,y8,-⟩:=Pm.cells
   have ACo:=qh Pm
   have JA:=qh Ja
   have ACp:=qh XL
   clear Pm Ja XL
   have t4:Touch (KA a st Af cf) w3 w5:=(Touch.alloc _).trans JA.out
   have hown5:w5.ownsRow base 3 1 (.slice (some ⟨g,0,none⟩) (way++[no]).length cw) (way++[no]).length (AB encI (way++[no])) :=
    BG (BG HW2.out.ways HT3.out (fun x hx=>(HWT.out x hx).1)) t4 (fun x hx h=>h.elim (HWT.out x hx).1 (HWT.out x hx).2)
   have mg:=qh (ACo.out.turn hown5 rfl)
   have kU:Hid (Touch (Gn a st (way++[no]) Ae ce Ab cb Af cf (some ⟨g,0,none⟩) cw) w (w5.setCell ⟨a,8,none⟩ (.slice (some ⟨g,0,none⟩) (way++[no]).length cw))) :=
    (((Touch.of_below HB2.out).trans (HT3.out.weak (fun x e=>.inl e))).trans (t4.weak (fun x h=>KA.all h))).trans (Touch.Dc (.inl rfl))
   have Rq:Hid (∀ x,Gn a (Ad st ⟨way++[no],c⟩) (way++[no]) Ae ce Ab cb Af' cf' (some ⟨g,0,none⟩) cw x→Gn a st (way++[no]) Ae ce Ab cb Af cf (some ⟨g,0,none⟩) cw x∨w.heap.size≤x):=fun x hx=>by
    rcases hx with h|h|h|h|h
    · exact .inl (.inl h)
    · exact .inl (.inr (.inl h))
    · exact .inl (.inr (.inr (.inl h)))
    · have hfl:(Ad st ⟨way++[no],c⟩).AR.length=st.AR.length+1:=by simp [Ad]
      rw [hfl] at h
      rcases ACp.out x h with h|h
      · exact .inl (.inr (.inr (.inr (.inl h))))
      · right
        have:=HT3.out.size
        have:=HB2.out.size
        simp at h
        omega
    · exact .inl (.inr (.inr (.inr (.inr h))))
   rw [hwl] at mg kU
   clear t4 hown5
   go_wp2_with fail
   have hfin:=(⟨_,_,_,_,_,_,_,_,_,mg.out,kU.out,Rq.out⟩:After w (w5.setCell ⟨a,8,none⟩ (.slice (some ⟨g,0,none⟩) (way.length+1) cw)) base a img tree fuel st (Ad st ⟨way++[no],c⟩) (way++[no]) Ae Ab Af (some ⟨g,0,none⟩) ce cb cf cw)
   exact ⟨rfl,_,results_none rfl _ _ _,⟨_,rfl⟩,hfin⟩
end
section
open Go.RowKit Go.Shelf
attribute [local go_sem] Oper.semAt_some
def mh (base a img:Nat) (tree fuel:Int) (bs:List UInt8) (d:Nat):Prop :=
 ∀ (w:World) (st:WS) (way:List Int) (Ae Ab Af Aw:Option Addr) (ce cb cf cw:Nat) (vs:List Value) (S:Nat→Prop) (no lo hi:Int),
  Wk w base a img tree fuel st way Ae ce Ab cb Af cf Aw cw vs→(∀ b,S b→b<w.heap.size∧¬ Gn a st way Ae ce Ab cb Af cf Aw cw b)→Cj w S img bs→bs.length≤140737488355328→base≤w.heap.size→Cn lo hi=true →
  way.length+d=17→0≤st.looked→st.looked≤10000000→fuel≤10000000→(Ii st:Int)+64*(10000000-st.looked)≤640000000 →
  Calls Tryz.prog 200 #[.pointer (some ⟨a,0,none⟩),.int .i64 no,.agg #[.int .i64 lo,.int .i64 hi]] w fun e w'=>(∃ r,e=.returned r)∧After w w' base a img tree fuel st (BV bs tree fuel d way no (lo,hi) st) way Ae Ab Af Aw ce cb cf cw
set_option maxRecDepth 100000 in
theorem Rs (base a img:Nat) (tree fuel:Int) (bs:List UInt8):∀ d,0<d→mh base a img tree fuel bs d
 | 0,h0=>by omega
 | d+1,_=>by
  intro w st way Ae Ab Af Aw ce cb cf cw vs S no lo hi h hS hi' hl hbase hr hd hlk hlk2 hfu hsz
  have IH:=qh (fun h=>Rs base a img tree fuel bs d h)
  have zh:st.AR.length≤1000000000:=by unfold Ii at hsz;omega
  have halt:=h.box.lt
  have J2:=qh h.ZR
  have hx:=AP.new w #[.int .i64 lo,.int .i64 hi] 283
  have hB1:Below w.heap.size w (w.alloc (.cells #[.int .i64 lo,.int .i64 hi] 283)):=(Below.refl _ _).alloc (Nat.le_refl _) _
  have h1:=h.below hB1
  go_enter Tryz.func200,Tryz.ntmps200
  go_upto_region 1 with fail
  generalize w.alloc (.cells #[.int .i64 lo,.int .i64 hi] 283)=w1 at *
  obtain ⟨y0,y1,y2,y3,y4,y5,y6,y7,y8,y9⟩:=h1.cells
  have ACt:=h1.box.lt
  by_cases hfl:fuel≤st.looked
  · have hd1:decide (st.looked ≥ fuel)=true:=decide_eq_true hfl
    have hd2:decide (fuel≤st.looked)=true:=decide_eq_true hfl
    have HV:Hid (BV bs tree fuel (d+1) way no (lo,hi) st={ Ad st ⟨way++[no],12⟩ with Ju:=true }):=by
     show _=_
     unfold BV
     rw [if_pos hfl]
    clear h hi' IH hfl
    go_quiet (fail)
    have HB1:Hid (Below w.heap.size w (w1.drewN nq)):=Ay hB1 _
    have h1:Wk (w1.drewN nq) base a img tree fuel st way Ae ce Ab cb Af cf Aw cw vs:=h1.below (Ay (Below.refl _ _) _)
    have zi:base≤(w1.drewN nq).heap.size:=by have:=HB1.out.size;omega
    generalize w1.drewN nq=w2 at *
    have VF:=h1.below ((Below.refl _ _).alloc (Nat.le_refl _) (.cells #[.int .i64 no,.iface 88 (.int .i64 12)] 327))
    have iK:D7 (w2.alloc (.cells #[.int .i64 no,.iface 88 (.int .i64 12)] 327)) (FB (w2.alloc (.cells #[.int .i64 no,.iface 88 (.int .i64 12)] 327)) base) (.iface 325 (.pointer (some ⟨w2.heap.size,0,none⟩))) [no] 12 :=
     D7.wrap (S:=fun _=>False) (v:=.iface 88 (.int .i64 12)) (bs:=[]) (show _=_ from rfl) (fun _ h=>h.elim) no _ (fun _ h=>h.elim) ⟨zi,_,heap_alloc_new _ _⟩ _
    have HN:=qh (Pi _ base a img tree fuel st way Ae Ab Af _ ce cb cf cw vs _ [no] 12 VF iK (by simp;omega) (by omega) zh)
    clear hx hB1 VF iK h1 y0 y1 y2 y3 y4 y5 y6 y7 y8 y9
    go_upto_region 3 with first
     | (go_at_call 151;refine (Dn w2 no 88 (.int .i64 12)).mono ?_;rintro e w4 ⟨rfl,rfl⟩)
     | (go_at_call 223;refine HN.out.mono ?_;rintro e w5 ⟨⟨r5,rfl⟩,Af',cf',v',Pm,Ja,XL⟩)
    have z9:=Pm.free 9
    obtain ⟨-,-,-,-,-,-,-,-,-,y9⟩:=Pm.cells
    have mg:=qh (Pm.WB 9 (.bool true) { Ad st ⟨way++[no],12⟩ with Ju:=true } rfl rfl rfl rfl)
    have kU:Hid (Touch (Gn a st way Ae ce Ab cb Af cf Aw cw) w (w5.setCell ⟨a,9,none⟩ (.bool true))) :=
     (((Touch.of_below HB1.out).trans (Touch.alloc _)).trans (Ja.weak (fun x h=>KA.all h))).trans (Touch.Dc (.inl rfl))
    have Rq:Hid (∀ x,Gn a { Ad st ⟨way++[no],12⟩ with Ju:=true } way Ae ce Ab cb Af' cf' Aw cw x→Gn a st way Ae ce Ab cb Af cf Aw cw x∨w.heap.size≤x):=fun x hx=>by
     rcases hx with h|h|h|h|h
     · exact .inl (.inl h)
     · exact .inl (.inr (.inl h))
     · exact .inl (.inr (.inr (.inl h)))
     · have hfl:(Ad st ⟨way++[no],12⟩).AR.length=st.AR.length+1:=by simp [Ad]
       dsimp only at h
       rw [hfl] at h
       rcases XL x h with h|h
       · exact .inl (.inr (.inr (.inr (.inl h))))
       · right
         have:=HB1.out.size
         simp at h
         omega
     · exact .inl (.inr (.inr (.inr (.inr h))))
    clear Pm Ja XL
    go_wp2_with fail
    first
     | exact bodyPost_ret (results_none rfl _ _ _) rfl ⟨⟨_,rfl⟩,by rw [HV.out];exact ⟨_,_,_,_,_,_,_,_,_,mg.out,kU.out,Rq.out⟩⟩
     | exact ⟨rfl,_,results_none rfl _ _ _,⟨_,rfl⟩,by rw [HV.out];exact ⟨_,_,_,_,_,_,_,_,_,mg.out,kU.out,Rq.out⟩⟩
  · have hd1:decide (st.looked ≥ fuel)=false:=decide_eq_false hfl
    have hd2:decide (fuel≤st.looked)=false:=decide_eq_false hfl
    have HV:Hid (BV bs tree fuel (d+1) way no (lo,hi) st=if Bf bs tree st.deep way no lo hi≠0 then Ad { st with looked:=st.looked+1 } ⟨way++[no],Bf bs tree st.deep way no lo hi⟩
     else if (nodeAt bs no).leaf=true then { st with looked:=st.looked+1,AV:=st.AV++[no],deep:=way.length+1,AO:=st.AO++BK (nodeAt bs no) no }
     else Ee (BV bs tree fuel d (way++[no])) way no ((spansOf hi (nodeAt bs no).keys).zip (nodeAt bs no).vals) { st with looked:=st.looked+1,AV:=st.AV++[no] }):=by
     show _=_
     conv=>lhs;unfold BV
     rw [if_neg hfl]
    have HI:=qh (hi'.below hB1 (fun b hb=>(hS b hb).1))
    have HI':=qh hi'
    clear hfl h hi'
    go_quiet (fail)
    have HB1:Hid (Below w.heap.size w (w1.drewN nq)):=Ay hB1 _
    have h1:Wk (w1.drewN nq) base a img tree fuel st way Ae ce Ab cb Af cf Aw cw vs:=h1.below (Ay (Below.refl _ _) _)
    have HI2:=qh (HI.out.below (w':=w1.drewN nq) (Ay (Below.refl _ _) _) (fun b hb=>by have:=(hS b hb).1;have:=hB1.size;omega))
    have x0:(w1.drewN nq).cell? ⟨w.heap.size,0,none⟩=some (.int .i64 lo):=hx.at 0 _ rfl
    have x1:(w1.drewN nq).cell? ⟨w.heap.size,1,none⟩=some (.int .i64 hi):=hx.at 1 _ rfl
    have HX:Hid (AP (w1.drewN nq) w.heap.size #[.int .i64 lo,.int .i64 hi] 283):=hx
    have zi:base≤(w1.drewN nq).heap.size:=by have:=HB1.out.size;omega
    have hws:w.heap.size≤(w1.drewN nq).heap.size:=HB1.out.size
    clear hx hB1 y0 y1 y2 y3 y4 y5 y6 y7 y8 y9 HI ACt
    generalize w1.drewN nq=w2 at *
    have yB:=qh (iF w2 base a img tree fuel st way Ae Ab Af Aw ce cb cf cw vs S bs no lo hi h1 (fun b hb=>⟨by have:=(hS b hb).1;omega,fun e=>(hS b hb).2 (.inl e)⟩) HI2.out hl hr (by omega) ⟨hlk,by omega⟩)
    have H1:=qh h1
    clear h1
    go_upto_region 5 with (go_at_call 224;refine yB.out.mono ?_;rintro e w3 ⟨t,lf,Ak,nk,ck,Av,nv,cv,ev,rfl,HN,HE,HB3⟩)
    have hz:(w2.setCell ⟨a,3,none⟩ (.int .i64 (st.looked+1))).heap.size=w2.heap.size:=by simp [World.setCell]
    have hW3:Wk w3 base a img tree fuel { st with looked:=st.looked+1 } way Ae ce Ab cb Af cf Aw cw vs:=(H1.out.WB 3 (.int .i64 (st.looked+1)) { st with looked:=st.looked+1 } rfl rfl rfl rfl).below (by rw [hz];exact HB3.out)
    have zk:w2.heap.size≤w3.heap.size:=by have:=HB3.out.size;rw [hz] at this;exact this
    have HT3:Hid (Touch (Gn a st way Ae ce Ab cb Af cf Aw cw) w w3):=((Touch.of_below HB1.out).trans (Touch.Dc (.inl rfl))).trans ⟨HB3.out.os,HB3.out.tape,HB3.out.output,by rw [hz];exact zk,fun x hx _=>HB3.out.block x (by rw [hz] at hx;exact hx)⟩
    have VF:=hW3.below ((Below.refl _ _).alloc (Nat.le_refl _) (.cells #[.int .i64 t,.bool lf,.slice Ak nk ck,.slice Av nv cv] 173))
    have HG:=qh (AP.new w3 #[.int .i64 t,.bool lf,.slice Ak nk ck,.slice Av nv cv] 173)
    by_cases hle:Bf bs tree st.deep way no lo hi≠0
    · have xz:D7 w3 (FB w3 w2.heap.size) ev [no] (Bf bs tree st.deep way no lo hi):=by
        have:=HE.out
        unfold CJ at this
        rwa [if_neg hle] at this
      obtain ⟨ty,u,rfl,_⟩:=xz.form
      have M3:=qh (HV.out.trans (if_pos hle))
      generalize Bf bs tree st.deep way no lo hi=c at *
      obtain ⟨w4,hw4⟩:∃ x,w3.alloc (.cells #[.int .i64 t,.bool lf,.slice Ak nk ck,.slice Av nv cv] 173)=x:=⟨_,rfl⟩
      have hB4:Below w3.heap.size w3 w4:=by rw [← hw4];exact (Below.refl _ _).alloc (Nat.le_refl _) _
      rw [hw4] at VF
      rw [hw4]
      have iK:D7 w4 (FB w4 base) (.iface ty u) [no] c:=xz.keep (fun b hb=>⟨by have:=hb.1;omega,(VD hb hB4).2⟩) (AL hB4 (fun b hb=>hb.lt))
      have HN9:=qh (Pi w4 base a img tree fuel { st with looked:=st.looked+1 } way Ae Ab Af _ ce cb cf cw vs _ [no] c VF iK (by have:=hB4.size;omega) (by omega) zh)
      have XM:Hid (Touch (Gn a st way Ae ce Ab cb Af cf Aw cw) w w4):=HT3.out.trans (Touch.of_below hB4)
      have AEU:w.heap.size≤w4.heap.size:=XM.out.size
      clear hW3 VF xz iK hB4 HN HE HG IH HB3 yB HI2
      go_wp2_with (go_at_call 223;refine HN9.out.mono ?_;rintro e w5 ⟨⟨r5,rfl⟩,Af',cf',v',Pm,Ja,XL⟩)
      have hfin:After w w5 base a img tree fuel st (BV bs tree fuel (d+1) way no (lo,hi) st) way Ae Ab Af Aw ce cb cf cw:=by
       rw [M3.out]
       refine ⟨_,_,_,_,_,_,_,_,_,Pm,XM.out.trans (Ja.weak (fun x h=>KA.all (st:=st) h)),fun x hx=>?_⟩
       rcases hx with h|h|h|h|h
       · exact .inl (.inl h)
       · exact .inl (.inr (.inl h))
       · exact .inl (.inr (.inr (.inl h)))
       · have hfl:(Ad { st with looked:=st.looked+1 } ⟨way++[no],c⟩).AR.length=st.AR.length+1:=by simp [Ad]
         rw [hfl] at h
         rcases XL x h with h|h
         · exact .inl (.inr (.inr (.inr (.inl h))))
         · right;omega
       · exact .inl (.inr (.inr (.inr (.inr h))))
      first
       | exact bodyPost_ret (results_none rfl _ _ _) rfl ⟨⟨_,rfl⟩,hfin⟩
       | exact ⟨rfl,_,results_none rfl _ _ _,⟨_,rfl⟩,hfin⟩
    · have hl0:Bf bs tree st.deep way no lo hi=0:=Decidable.not_not.1 hle
      have hnil:ev=.nilIface:=by
       have:=HE.out
       unfold CJ at this
       rwa [if_pos hl0] at this
      subst hnil
      have M3:=qh (HV.out.trans (if_neg hle))
      have hnd:=HN.out hl0
      obtain ⟨hna,hw16,hall⟩:=GD hl0
      obtain ⟨kv,vv,hv,hks,hvs⟩:=hnd
      simp at hv
      obtain ⟨-,hlf,zf,hvv⟩:=hv
      subst zf hvv
      obtain ⟨VA,hlen⟩:(nodeAt bs no).keys.length≤18∧(nodeAt bs no).keys.length=(nodeAt bs no).vals.length:=Hl (Dg hna)
      obtain ⟨w4,hw4⟩:∃ x,w3.alloc (.cells #[.int .i64 t,.bool lf,.slice Ak nk ck,.slice Av nv cv] 173)=x:=⟨_,rfl⟩
      have hB4:Below w3.heap.size w3 w4:=by rw [← hw4];exact (Below.refl _ _).alloc (Nat.le_refl _) _
      rw [hw4] at VF HG
      rw [hw4]
      have hs4:w4.heap.size=w3.heap.size+1:=by rw [← hw4];simp
      have XM:Hid (Touch (Gn a st way Ae ce Ab cb Af cf Aw cw) w w4):=HT3.out.trans (Touch.of_below hB4)
      have zX:a≠w.heap.size:=by omega
      have zl:Hid (AP w4 w.heap.size #[.int .i64 lo,.int .i64 hi] 283):=((HX.out.far zX 3 (.int .i64 (st.looked+1))).below HB3.out (HX.out.lt)).below hB4 (by have:=HX.out.lt;omega)
      have Vu:Hid (Aa w4 (C9 w2.heap.size w3.heap.size) (.slice Ak nk ck) (nodeAt bs no).keys):=hks.keep (AA _) (fun _ h=>h) (AL hB4 (fun b hb=>hb.2))
      have uR:Hid (Js w4 (C9 w2.heap.size w3.heap.size) (.slice Av nv cv) (nodeAt bs no).vals):=hvs.keep (AA _) (fun _ h=>h) (AL hB4 (fun b hb=>hb.2))
      have HW4:=qh VF
      have VI:=qh VA
      have HLEN:=qh hlen
      have Ny:=qh hall
      have gX:=qh hna
      have hbl:st.AV.length≤1000000000:=by unfold Ii at hsz;omega
      have Pn:=VF.AV
      dsimp only at Pn
      obtain ⟨y0,y1,y2,y3,y4,y5,y6,y7,y8,y9⟩:=VF.cells
      dsimp only at y0 y1 y2 y3 y4 y5 y6 y7 y8 y9
      have ACu:base≤w4.heap.size:=by omega
      have z1:=VF.free 1
      have hA4:Hid (some a≠(Value.slice Ab st.AV.length cb).ownBlock):=BC Pn VF.box (by decide)
      have zm:=VF.box.lt
      have HS4:=qh hs4
      have AEV:w3.heap.size<w4.heap.size:=by omega
      clear hW3 VF hks hvs VA hlen hall hna hB4 HB3 HN HE yB HI2 hw4 hs4
      go_upto_region 8 with (at_builtin;go_loud (refine BA Ir rfl _ _ rfl base (.slice Ab st.AV.length cb) st.AV.length st.AV no rfl Pn rfl (by omega) ACu ?_);intro A6 c6 w6 hown6 OJ uS;have y1:=(OJ.cell_far ⟨a,1,none⟩ zm hA4.out).trans y1;have z1:=(OJ.frozen_far ⟨a,1,none⟩ zm hA4.out).trans z1;have mq:=qh (HW4.out.blk hown6 OJ uS);have xe:=qh OJ;have zn:=qh uS;clear hown6 OJ uS)
      have aT:Hid (Touch (Gn a st way Ae ce Ab cb Af cf Aw cw) w4 (w6.setCell ⟨a,1,none⟩ (.slice A6 (st.AV.length+1) c6))):=(Touch.BO xe.out (fun x hx=>.inr (.inr (.inl hx)))).trans (Touch.Dc (.inl rfl))
      have mr:Hid (∀ x,Gn a { st with looked:=st.looked+1,AV:=st.AV++[no] } way Ae ce A6 c6 Af cf Aw cw x→Gn a st way Ae ce Ab cb Af cf Aw cw x∨w4.heap.size≤x):=fun x hx=>by
       rcases hx with h|h|h|h|h
       · exact .inl (.inl h)
       · exact .inl (.inr (.inl h))
       · have uT:(st.AV++[no]).length=st.AV.length+1:=by simp
         dsimp only at h
         rw [uT] at h
         exact (zn.out x h).elim (fun h=>.inl (.inr (.inr (.inl h)))) .inr
       · exact .inl (.inr (.inr (.inr (.inl h))))
       · exact .inl (.inr (.inr (.inr (.inr h))))
      clear xe zn y0 y1 y2 y3 y4 y5 y6 y7 y8 y9 z1 hA4
      generalize w6.setCell ⟨a,1,none⟩ (.slice A6 (st.AV.length+1) c6)=w7 at *
      have hnr:∀ b,w.heap.size≤b→¬ Gn a st way Ae ce Ab cb Af cf Aw cw b:=fun b hb h=>by have:=J2.out b h;omega
      have hs7:w4.heap.size≤w7.heap.size:=aT.out.size
      have hS7:∀ b,C9 w2.heap.size w3.heap.size b→b<w7.heap.size∧¬ Gn a { st with looked:=st.looked+1,AV:=st.AV++[no] } way Ae ce A6 c6 Af cf Aw cw b:=fun b hb=>⟨by have:=hb.2;omega,fun h=>(mr.out b h).elim (hnr b (by have:=hb.1;omega)) (fun h=>by have:=hb.2;omega)⟩
      have uU:=qh hS7
      have HNR:=qh hnr
      have gF:Hid (AP w7 w3.heap.size #[.int .i64 t,.bool lf,.slice Ak nk ck,.slice Av nv cv] 173):=(aT.out.block (by omega) (hnr _ (by omega))).trans HG.out
      have yC:Hid (AP w7 w.heap.size #[.int .i64 lo,.int .i64 hi] 283):=(aT.out.block (by omega) (hnr _ (by omega))).trans zl.out
      have HK7:Hid (Aa w7 (C9 w2.heap.size w3.heap.size) (.slice Ak nk ck) (nodeAt bs no).keys):=Vu.out.keep (AA _) (fun _ h=>h) (Ap aT.out (fun b hb=>⟨by have:=hb.2;omega,hnr b (by have:=hb.1;omega)⟩))
      have Vv:Hid (Js w7 (C9 w2.heap.size w3.heap.size) (.slice Av nv cv) (nodeAt bs no).vals):=uR.out.keep (AA _) (fun _ h=>h) (Ap aT.out (fun b hb=>⟨by have:=hb.2;omega,hnr b (by have:=hb.1;omega)⟩))
      have uV:Hid (Touch (Gn a st way Ae ce Ab cb Af cf Aw cw) w w7):=XM.out.trans aT.out
      have zo:Hid (∀ x,Gn a { st with looked:=st.looked+1,AV:=st.AV++[no] } way Ae ce A6 c6 Af cf Aw cw x→Gn a st way Ae ce Ab cb Af cf Aw cw x∨w.heap.size≤x):=fun x hx=>(mr.out x hx).imp id (fun h=>by omega)
      obtain ⟨n0,n1,n2,n3⟩:=gF.out.Cf
      have s0:=yC.out.at 0 _ rfl
      have s1:=yC.out.at 1 _ rfl
      clear hnr hS7 HG zl Vu uR HX XM
      subst hlf
      by_cases hlf:(nodeAt bs no).leaf=true
      · have HV3:=qh (M3.out.trans (if_pos hlf))
        have lZ:=qh (iL w7 base a img tree fuel _ way Ae A6 Af Aw ce c6 cf cw vs _ no t (nodeAt bs no).leaf _ _ (nodeAt bs no) mq.out uU.out HK7.out Vv.out HLEN.out (by omega) (by omega) (by show st.AO.length≤_;unfold Ii at hsz;omega) (by have:=VI.out;omega))
        have nA:=hlf
        generalize (nodeAt bs no).leaf=lf at *
        subst hlf
        clear IH M3 HV
        go_wp2_with (go_at_call 225;refine lZ.out.mono ?_;rintro e w9 ⟨⟨r9,rfl⟩,hLA⟩)
        have hfin:After w w9 base a img tree fuel st (BV bs tree fuel (d+1) way no (lo,hi) st) way Ae Ab Af Aw ce cb cf cw:=by
         rw [HV3.out]
         obtain ⟨Ae9,ce9,uK,QY,Fh⟩:=hLA
         refine ⟨Ae9,ce9,A6,c6,Af,cf,Aw,cw,vs,uK,uV.out.trans' QY zo.out,fun x hx=>?_⟩
         rcases hx with h|h|h|h|h
         · exact .inl (.inl h)
         · rcases Fh x h with h|h
           · exact .inl (.inr (.inl h))
           · exact .inr (by have:=uV.out.size;omega)
         · exact zo.out x (.inr (.inr (.inl h)))
         · exact .inl (.inr (.inr (.inr (.inl h))))
         · exact .inl (.inr (.inr (.inr (.inr h))))
        first
         | exact bodyPost_ret (results_none rfl _ _ _) rfl ⟨⟨_,rfl⟩,hfin⟩
         | exact ⟨rfl,_,results_none rfl _ _ _,⟨_,rfl⟩,hfin⟩
      · have nA:(nodeAt bs no).leaf=false:=by simpa using hlf
        have HV3:=qh (M3.out.trans (if_neg hlf))
        generalize (nodeAt bs no).leaf=lf at *
        subst nA
        clear hlf M3 HV
        obtain ⟨y0,y1,y2,y3,y4,y5,y6,y7,y8,y9⟩:=mq.out.cells
        dsimp only at y0 y1 y2 y3 y4 y5 y6 y7 y8 y9
        have z8:=mq.out.free 8
        have iN:=mq.out.ways
        have uW:Hid (some a≠(Value.slice Aw way.length cw).ownBlock):=BC iN mq.out.box (by decide)
        have uX:=mq.out.box.lt
        have ADv:way.length≤16:=by omega
        have ACv:base≤w7.heap.size:=by omega
        have uY:Hid (FN lo hi (nodeAt bs no).keys=0):=(Ip hr (Io (Dg gX.out)).1).2 Ny.out
        have zS:Hid (Ii ({ st with looked:=st.looked+1,AV:=st.AV++[no] }:WS)=Ii st+1):=by
         show _=_
         unfold Ii
         simp
         omega
        have zq:Hid (({ st with looked:=st.looked+1,AV:=st.AV++[no] }:WS).looked=st.looked+1):=rfl
        have ACw:=qh mq.out.ZR
        go_upto_region 11 with (at_builtin;go_loud (refine BA Ir rfl _ _ rfl base (.slice Aw way.length cw) way.length way no rfl iN rfl (by omega) ACv ?_);intro A8 c8 w8 DI E5 Fx;have y8:=(E5.cell_far ⟨a,8,none⟩ uX uW.out).trans y8;have z8:=(E5.frozen_far ⟨a,8,none⟩ uX uW.out).trans z8;have kL:=qh (mq.out.step DI E5 Fx);have Gl:=qh E5;have zt:=qh Fx;clear DI E5 Fx)
        have XN:Hid (Touch (Gn a { st with looked:=st.looked+1,AV:=st.AV++[no] } way Ae ce A6 c6 Af cf Aw cw) w7 (w8.setCell ⟨a,8,none⟩ (.slice A8 (way.length+1) c8))):=(Touch.BO Gl.out (fun x hx=>.inr (.inr (.inr (.inr hx))))).trans (Touch.Dc (.inl rfl))
        have Rq:Hid (∀ x,Gn a { st with looked:=st.looked+1,AV:=st.AV++[no] } (way++[no]) Ae ce A6 c6 Af cf A8 c8 x→Gn a { st with looked:=st.looked+1,AV:=st.AV++[no] } way Ae ce A6 c6 Af cf Aw cw x∨w7.heap.size≤x):=fun x hx=>by
         rcases hx with h|h|h|h|h
         · exact .inl (.inl h)
         · exact .inl (.inr (.inl h))
         · exact .inl (.inr (.inr (.inl h)))
         · exact .inl (.inr (.inr (.inr (.inl h))))
         · have uT:(way++[no]).length=way.length+1:=by simp
           rw [uT] at h
           exact (zt.out x h).elim (fun h=>.inl (.inr (.inr (.inr (.inr h))))) .inr
        clear Gl zt y0 y1 y2 y3 y4 y5 y6 y7 y8 y9 z8 uW iN uX
        generalize nC:({ st with looked:=st.looked+1,AV:=st.AV++[no] }:WS)=TM at *
        clear nC
        generalize w8.setCell ⟨a,8,none⟩ (.slice A8 (way.length+1) c8)=w9 at *
        have kV:w7.heap.size≤w9.heap.size:=XN.out.size
        have hnk:=HK7.out.DC.1
        have yD:=Vv.out.DC.1
        have zu:=HLEN.out
        obtain rfl:nv=nk:=by omega
        have zw:nv≤18:=by have:=VI.out;omega
        have zx:∀ b,b<w7.heap.size→¬ Gn a TM way Ae ce A6 c6 Af cf Aw cw b→¬ Gn a TM (way++[no]) Ae ce A6 c6 Af cf A8 c8 b:=fun b hb hn h=>(Rq.out b h).elim hn (fun h=>by omega)
        have dP:∀ b,w.heap.size≤b→b<w4.heap.size→¬ Gn a TM way Ae ce A6 c6 Af cf Aw cw b:=fun b hb hb4 h=>(mr.out b h).elim (HNR.out b hb) (fun h=>by omega)
        have XO:Hid (∀ x,Gn a TM (way++[no]) Ae ce A6 c6 Af cf A8 c8 x→Gn a st way Ae ce Ab cb Af cf Aw cw x∨w.heap.size≤x):=fun x hx=>(Rq.out x hx).elim (fun h=>zo.out x h) (fun h=>.inr (by omega))
        have kU:Hid (Touch (Gn a st way Ae ce Ab cb Af cf Aw cw) w w9):=uV.out.trans' XN.out zo.out
        have UD:Hid (AP w9 w3.heap.size #[.int .i64 t,.bool false,.slice Ak nv ck,.slice Av nv cv] 173):=(XN.out.block (by omega) (dP _ (by omega) (by omega))).trans gF.out
        have uZ:Hid (AP w9 w.heap.size #[.int .i64 lo,.int .i64 hi] 283):=(XN.out.block (by omega) (dP _ (by omega) (by omega))).trans yC.out
        have HK9:Hid (Aa w9 (C9 w2.heap.size w3.heap.size) (.slice Ak nv ck) (nodeAt bs no).keys):=HK7.out.keep (AA _) (fun _ h=>h) (Ap XN.out (fun b hb=>uU.out b hb))
        have HV9:Hid (Js w9 (C9 w2.heap.size w3.heap.size) (.slice Av nv cv) (nodeAt bs no).vals):=Vv.out.keep (AA _) (fun _ h=>h) (Ap XN.out (fun b hb=>uU.out b hb))
        have Ri:=qh (Qr w9 (C9 w2.heap.size w3.heap.size) lo hi _ _ (fun b hb=>by have:=(uU.out b hb).1;omega) HK9.out (by have:=VI.out;omega) uY.out)
        have Ya:Hid (∀ b,w.heap.size≤b→b<w4.heap.size→¬ Gn a TM (way++[no]) Ae ce A6 c6 Af cf A8 c8 b):=fun b h1 h2=>zx b (by omega) (dP b h1 h2)
        have Nu:Hid ((spansOf hi (nodeAt bs no).keys).length=nv):=by show _=_;rw [Dj];exact hnk.symm
        have zy:=qh kL.out.ZR
        have HNK:=qh hnk
        have YN:=qh yD
        obtain ⟨n0,n1,n2,n3⟩:=UD.out.Cf
        have s0:=uZ.out.at 0 _ rfl
        have s1:=uZ.out.at 1 _ rfl
        clear zx dP hnk yD zu gF yC HK7 Vv uV XN uU Rq zo ACw mr HNR
        go_upto_block 0 with (go_at_call 226;refine Ri.out.mono ?_;rintro e CW ⟨⟨_,rfl,⟨Asp,csp,rfl,ACx,zz⟩⟩,I4⟩;rw [Nu.out];have ACy:=qh zz;have Fy:=qh I4;clear zz I4 ACx)
        have ACz:=qh (kL.out.below Fy.out)
        have AEW:w9.heap.size≤CW.heap.size:=Fy.out.size
        have qO:Hid (∀ b,w9.heap.size≤b→¬ Gn a TM (way++[no]) Ae ce A6 c6 Af cf A8 c8 b):=fun b hb h=>by have:=zy.out b h;omega
        have AC0:Hid (Js CW (C9 w2.heap.size w3.heap.size) (.slice Av nv cv) (nodeAt bs no).vals):=HV9.out.keep (AA _) (fun _ h=>h) (AL Fy.out (fun b hb=>by have:=hb.2;omega))
        have AC1:Hid (AP CW w3.heap.size #[.int .i64 t,.bool false,.slice Ak nv ck,.slice Av nv cv] 173):=UD.out.below Fy.out (by omega)
        have VJ:Hid (Touch (Gn a st way Ae ce Ab cb Af cf Aw cw) w CW):=kU.out.trans (Touch.of_below Fy.out)
        have AAA:=XO
        have AC2:TM.looked≤fuel:=by have:=zq.out;have:=of_decide_eq_false hd2;omega
        have AC3:Hid (∀ k,k<nv→Cn (nth (0,0) (spansOf hi (nodeAt bs no).keys) k).1 (nth (0,0) (spansOf hi (nodeAt bs no).keys) k).2=true):=fun k hk=>NN uY.out k (by have:=HNK.out;omega)
        have HPR:Hid (∀ k,k<nv→((spansOf hi (nodeAt bs no).keys).zip (nodeAt bs no).vals).drop k=(nth (0,0) (spansOf hi (nodeAt bs no).keys) k,nth [] (nodeAt bs no).vals k) :: ((spansOf hi (nodeAt bs no).keys).zip (nodeAt bs no).vals).drop (k+1)):=fun k hk=>by
         have h1:k<(spansOf hi (nodeAt bs no).keys).length:=by rw [Nu.out];exact hk
         have h2:k<(nodeAt bs no).vals.length:=by have:=YN.out;omega
         rw [List.drop_eq_getElem_cons (by rw [List.length_zip];omega),List.getElem_zip,Ac _ _ k h1,Ac _ _ k h2]
        have HPN:Hid (((spansOf hi (nodeAt bs no).keys).zip (nodeAt bs no).vals).drop nv=[]):=List.drop_eq_nil_of_le (by rw [List.length_zip,Nu.out];have:=YN.out;omega)
        have HVL:Hid (∀ k,k<nv→(nth [] (nodeAt bs no).vals k).length≤24):=fun k hk=>LJ bs no _ (Bv [] _ k (by have:=YN.out;omega))
        have aU:=YN
        clear Nu uY Ny gX HK9 HV9 UD uZ Ri zy kU mq kL
        generalize hpr:(spansOf hi (nodeAt bs no).keys).zip (nodeAt bs no).vals=pr at *
        clear hpr
        generalize AAB:spansOf hi (nodeAt bs no).keys=sps at *
        have hsl:sps.length=nv:=by rw [← AAB,Dj];exact HNK.out.symm
        have Nu:=qh hsl
        clear AAB hsl
        go_cut [73] (fun _ wx=>Hid (After CW wx base a img tree fuel TM (Ee (BV bs tree fuel d (way++[no])) way no pr TM) (way++[no]) Ae A6 Af A8 ce c6 cf c8))
        case first =>
         go_wp2_with fail
         go_loopw [73] (fun vi wr=>∃ (i:Nat) (st':WS),vi=.int .i64 i∧i≤nv∧Hid (After CW wr base a img tree fuel TM st' (way++[no]) Ae A6 Af A8 ce c6 cf c8)∧Hid (Ee (BV bs tree fuel d (way++[no])) way no pr TM=Ee (BV bs tree fuel d (way++[no])) way no (pr.drop i) st')∧Hid (Bd fuel i TM st')) (fun vi _=>nv-(intOf vi).toNat)
         case atStart=>exact ⟨0,TM,rfl,Nat.zero_le _,After.za ACz.out,by show _=_;rw [List.drop_zero],⟨Int.le_refl _,fun h=>h,by simp⟩⟩
         case round =>
          obtain ⟨i,st',rfl,hi9,HA,HKF,dQ⟩:=hrel
          by_cases hlt:i<nv
          · obtain ⟨E',cE',B',cB',F',cF',W',cW',vs',TG,hT,hX⟩:=HA.out
            obtain ⟨gb,ob,rfl,hgb,hq⟩:=VC ACy.out (by rw [Nu.out];omega)
            obtain ⟨gv,ov,rfl,hgv,hqv⟩:=He (AC0.out.DC).2.2 (by have:=YN.out;omega)
            obtain ⟨q0,q1⟩:=hq i (by rw [Nu.out];exact hlt)
            have q2:=hqv i (by have:=YN.out;omega)
            have hrs:=AC3.out i hlt
            have hpr:=HPR.out i hlt
            have hvl:=HVL.out i hlt
            have ADw:=hT.size
            have AAC:gb<CW.heap.size:=hgb.2
            have AEX:gv<w3.heap.size:=hgv.2
            have q0:=(Ap (S:=fun b=>b=gb) hT (fun b hb=>by subst hb;exact ⟨AAC,qO.out _ hgb.1⟩) gb _ rfl).trans q0
            have q1:=(Ap (S:=fun b=>b=gb) hT (fun b hb=>by subst hb;exact ⟨AAC,qO.out _ hgb.1⟩) gb _ rfl).trans q1
            have q2:=(Ap (S:=fun b=>b=gv) hT (fun b hb=>by subst hb;exact ⟨by omega,Ya.out _ (by have:=hgv.1;omega) (by omega)⟩) gv _ rfl).trans q2
            have hgr:AP wr w3.heap.size #[.int .i64 t,.bool false,.slice Ak nv ck,.slice (some ⟨gv,ov,none⟩) nv cv] 173:=(hT.block (by omega) (Ya.out _ (by omega) (by omega))).trans AC1.out
            obtain ⟨n0,n1,n2,n3⟩:=hgr.Cf
            have hiv:(i:Int)<(nv:Int):=by omega
            have uf:=VJ.out.trans' hT AAA.out
            obtain ⟨lo1,hi1,hx⟩:∃ p q,nth (0,0) sps i=(p,q):=⟨_,_,rfl⟩
            rw [hx] at q0 q1 hrs hpr
            dsimp only at q0 q1 hrs
            generalize nth [] (nodeAt bs no).vals i=v at *
            obtain ⟨k1,k2,k3⟩:=dQ.out
            have k2:=k2 AC2
            have h6l:=zq.out
            have h6w:=zS.out
            have AAD:(way++[no]).length+d=17:=by rw [List.length_append,List.length_singleton];omega
            have HCH:Hid (∀ wq,Below wr.heap.size wr wq→Calls Tryz.prog 227 #[.pointer (some ⟨a,0,none⟩),.int .i64 no,.string (Am v),.agg #[.int .i64 lo1,.int .i64 hi1]] wq fun e w'=>(∃ r,e=.returned r)∧After wq w' base a img tree fuel st' (if (Aj v).2≠0 then Ad st' ⟨way++[no],(Aj v).2⟩ else BV bs tree fuel d (way++[no]) (Aj v).1 (lo1,hi1) st') (way++[no]) E' B' F' W' cE' cB' cF' cW'):=fun wq gP =>
             aP wq base a img tree fuel st' way E' B' F' W' cE' cB' cF' cW' vs' no lo1 hi1 v (fun r=>BV bs tree fuel d (way++[no]) r (lo1,hi1) st') (TG.below gP) (by have:=gP.size;have:=uf.size;omega) (by omega) (by unfold Ii at k3 h6w hsz;omega) (by omega) (fun w1 hB1 _ =>
              IH.out (by omega) w1 st' (way++[no]) E' B' F' W' cE' cB' cF' cW' vs' S (Aj v).1 lo1 hi1 (TG.below (gP.trans (hB1.mono gP.size)))
               (fun b hb=>⟨by have:=(hS b hb).1;have:=uf.size;have:=gP.size;have:=hB1.size;omega,fun h=>(hX b h).elim (fun h=>(AAA.out b h).elim (hS b hb).2 (fun h=>by have:=(hS b hb).1;omega)) (fun h=>by have:=(hS b hb).1;have:=VJ.out.size;omega)⟩)
               (((HI'.out.keep (fun _ h=>h) (Ap uf hS)).below gP (fun b hb=>by have:=(hS b hb).1;have:=uf.size;omega)).below hB1 (fun b hb=>by have:=(hS b hb).1;have:=uf.size;have:=gP.size;omega)) hl (by have:=uf.size;have:=gP.size;have:=hB1.size;omega) hrs AAD (by omega) (by omega) hfu (by omega))
            have HST:Hid (Ee (BV bs tree fuel d (way++[no])) way no (pr.drop i) st'=Ee (BV bs tree fuel d (way++[no])) way no (((lo1,hi1),v) :: pr.drop (i+1)) st'):=by show _=_;rw [hpr]
            have HBS:Hid (Bd fuel ((i:Int)+1) TM (if (Aj v).2≠0 then Ad st' ⟨way++[no],(Aj v).2⟩ else BV bs tree fuel d (way++[no]) (Aj v).1 (lo1,hi1) st')):=dQ.out.trans (by
             split
             · exact eP _ _ _
             · exact Ov _ _ _ _ _ _ _ _)
            have HNP:Hid (∀ b,(b=w3.heap.size∨b=gv∨b=wr.heap.size)→¬ Gn a st' (way++[no]) E' cE' B' cB' F' cF' W' cW' b):=fun b hb h=>by
             have h1:=TG.ZR b h
             have h2:=hX b h
             rcases hb with rfl|rfl|rfl
             · exact h2.elim (Ya.out _ (by omega) (by omega)) (fun h=>by omega)
             · exact h2.elim (Ya.out _ (by have:=hgv.1;omega) (by omega)) (fun h=>by omega)
             · omega
            have HT:=qh hT
            have HX:=qh hX
            have haw:=TG.box.lt
            clear hq hqv hx hpr hrs k1 k2 k3 h6l h6w TG hT hX uf AAD hgb hgv
            go_upto_region 14 with fail
            have hb1:=AP.new wr #[.int .i64 lo1,.int .i64 hi1] 283
            have hBa:Below wr.heap.size wr (wr.alloc (.cells #[.int .i64 lo1,.int .i64 hi1] 283)):=(Below.refl _ _).alloc (Nat.le_refl _) _
            have fQ:w3.heap.size<(wr.alloc (.cells #[.int .i64 lo1,.int .i64 hi1] 283)).heap.size:=by have:=hBa.size;omega
            have AC4:gv<(wr.alloc (.cells #[.int .i64 lo1,.int .i64 hi1] 283)).heap.size:=by omega
            have AC5:wr.heap.size<(wr.alloc (.cells #[.int .i64 lo1,.int .i64 hi1] 283)).heap.size:=hb1.lt
            have n3:=AQ hBa (by omega) n3
            have q2:=AQ hBa (by omega) q2
            have b0:=hb1.at 0 _ rfl
            have b1:=hb1.at 1 _ rfl
            have iO:=qh hBa
            clear hBa hb1
            generalize wr.alloc (.cells #[.int .i64 lo1,.int .i64 hi1] 283)=wq at *
            refine AF (T:=fun _=>false) (S:=fun w'=>w'.cell? ⟨w3.heap.size,3,none⟩=some (.slice (some ⟨gv,ov,none⟩) nv cv)∧w'.cell? ⟨gv,ov+i,none⟩=some (.string (Am v))∧w'.cell? ⟨wr.heap.size,0,none⟩=some (.int .i64 lo1)∧w'.cell? ⟨wr.heap.size,1,none⟩=some (.int .i64 hi1)) (by kernel_rfl) (⟨n3,q2,b0,b1⟩) (fun hHeld=>?_)
            refine qs 0 78 hHeld ?_
            refine qs 1 79 hHeld ?_
            refine qs 2 80 hHeld ?_
            refine qf 3 81 rfl rfl hHeld (by intro w hSw;have n3:=hSw.1;go_simp;(try with_reducible rfl)) ?_
            refine qs 4 82 hHeld ?_
            refine qs 5 83 hHeld ?_
            refine qf 6 84 rfl rfl hHeld (by intro w hSw;have q2:=hSw.2.1;go_simp;(try with_reducible rfl)) ?_
            refine qf 7 85 rfl rfl hHeld (by intro w hSw;have b0:=hSw.2.2.1;have b1:=hSw.2.2.2;go_simp;(try with_reducible rfl)) ?_
            refine qo 8 fun K hK=>?_
            go_simp
            refine (HCH.out wq.drew (iO.out.drew)).mono ?_
            rintro e Ch ⟨⟨r12,rfl⟩,hAf⟩
            have HAF:=qh hAf
            have HKT:=hAf.keeps HNP.out fQ AC4 AC5
            clear hAf
            have hHeld:=(show World.cell? Ch ⟨w3.heap.size,3,none⟩=some (.slice (some ⟨gv,ov,none⟩) nv cv)∧World.cell? Ch ⟨gv,ov+i,none⟩=some (.string (Am v))∧World.cell? Ch ⟨wr.heap.size,0,none⟩=some (.int .i64 lo1)∧World.cell? Ch ⟨wr.heap.size,1,none⟩=some (.int .i64 hi1) from ⟨(HKT w3.heap.size 3 (.inl rfl)).trans n3,(HKT gv (ov+i) (.inr (.inl rfl))).trans q2,(HKT wr.heap.size 0 (.inr (.inr rfl))).trans b0,(HKT wr.heap.size 1 (.inr (.inr rfl))).trans b1⟩)
            refine hK.out _ _ (fun _=>hHeld) (fun _=>?_)
            clear hK K
            (try simp only [Act.put,qS])
            refine qd ?_
            have HA2:Hid (After CW Ch base a img tree fuel TM (if (Aj v).2≠0 then Ad st' ⟨way++[no],(Aj v).2⟩ else BV bs tree fuel d (way++[no]) (Aj v).1 (lo1,hi1) st') (way++[no]) Ae A6 Af A8 ce c6 cf c8):=After.iD (HT.out.trans (Touch.of_below iO.out.drew)) HX.out HAF.out
            have HKC:=qh (LK (BV bs tree fuel d (way++[no])) way no (lo1,hi1) v (pr.drop (i+1)) st')
            generalize (if (Aj v).2≠0 then Ad st' ⟨way++[no],(Aj v).2⟩ else BV bs tree fuel d (way++[no]) (Aj v).1 (lo1,hi1) st')=st2 at *
            obtain ⟨E2,cE2,B2,cB2,F2,cF2,W2,cW2,vs2,VK,_,_⟩:=HA2.out
            obtain ⟨-,-,-,-,-,-,-,-,-,y9⟩:=VK.cells
            clear VK HAF HCH n3 q2 b0 b1 q0 q1 hgr n0 n1 n2
            by_cases TN:st2.Ju=true
            · rw [TN] at y9
              have Rj:Hid (Ee (BV bs tree fuel d (way++[no])) way no pr TM=st2):=by
               show _=_
               rw [HKF.out,HST.out,HKC.out,if_pos TN]
              clear TN
              go_wp2_with fail
              go_meet
              show Hid (After _ _ _ _ _ _ _ _ _ _ _ _ _ _ _ _ _ _)
              rw [Rj.out]
              exact HA2
            · rw [show st2.Ju=false by simpa using TN] at y9
              have Rj:Hid (Ee (BV bs tree fuel d (way++[no])) way no pr TM=Ee (BV bs tree fuel d (way++[no])) way no (pr.drop (i+1)) st2):=by
               show _=_
               rw [HKF.out,HST.out,HKC.out,if_neg TN]
              clear TN
              go_wp2_with fail
              go_roundw
              case rel=>exact ⟨i+1,st2,by go_num,by omega,HA2,Rj,by have:=HBS.out;exact this⟩
              case measure=>simp [intOf];omega
          · obtain rfl:i=nv:=by omega
            have Rj:Hid (Ee (BV bs tree fuel d (way++[no])) way no pr TM=st'):=by
             show _=_
             rw [HKF.out,HPN.out]
             rfl
            go_wp2_with fail
            go_meet
            show Hid (After _ _ _ _ _ _ _ _ _ _ _ _ _ _ _ _ _ _)
            rw [Rj.out]
            exact HA
        case rest =>
         obtain ⟨E2,cE2,B2,cB2,F2,cF2,W2,cW2,vs2,VK,VL,hX2⟩:=hcut.out
         have hwf:∃ g,W2=some ⟨g,0,none⟩∧(way++[no]).length=way.length+1∧way.length+1≤cW2:=by
          obtain ⟨g,cap,e,_,_,hcap⟩:=FV VK.ways (by simp)
          injection e with e e2 e3
          subst e3
          rw [List.length_append,List.length_singleton] at hcap
          exact ⟨g,e,by simp,hcap⟩
         obtain ⟨gw,rfl,hwl,hcw⟩:=hwf
         have ACn:way.length≤cW2:=by omega
         have hcw2:¬ cW2=0:=by omega
         have hcw3:(way.length:Int)≤(cW2:Int):=by omega
         have e1:IntKind.i64.wrap (((way.length+1:Nat):Int)-1)=(way.length:Int):=by rw [IntKind.wrap_i64];omega
         have e2:((way.length+1:Nat):Int)-1=(way.length:Int):=by omega
         have e3:IntKind.i64.wrap (way.length:Int)=(way.length:Int):=by rw [IntKind.wrap_i64];omega
         have hWd:=VK.below (w':=wc.drew) (Below.refl _ _).drew
         have iJ:wc.drew.ownsRow base 3 1 (.slice (some ⟨gw,0,none⟩) way.length cW2) way.length (AB encI way):=by
          have h0:=hWd.ways
          rw [hwl] at h0
          have h1:=YA h0
          rw [Ba,List.take_left' (by rw [Bw (size:=1) Bh,Nat.mul_one])] at h1
          exact h1
         have L6:Hid (After w (wc.drew.setCell ⟨a,8,none⟩ (.slice (some ⟨gw,0,none⟩) way.length cW2)) base a img tree fuel st (BV bs tree fuel (d+1) way no (lo,hi) st) way Ae Ab Af Aw ce cb cf cw):=by
          show After _ _ _ _ _ _ _ _ _ _ _ _ _ _ _ _ _ _
          rw [HV3.out]
          refine ⟨E2,cE2,B2,cB2,F2,cF2,some ⟨gw,0,none⟩,cW2,vs2,hWd.turn iJ rfl,((VJ.out.trans' VL XO.out).trans Touch.drew).trans (Touch.Dc (.inl rfl)),fun x hx=>?_⟩
          have hx2:Gn a (Ee (BV bs tree fuel d (way++[no])) way no pr TM) (way++[no]) E2 cE2 B2 cB2 F2 cF2 (some ⟨gw,0,none⟩) cW2 x:=hx
          exact (hX2 x hx2).elim (fun h=>XO.out x h) (fun h=>.inr (by have:=VJ.out.size;omega))
         obtain ⟨y0,y1,y2,y3,y4,y5,y6,y7,y8,y9⟩:=VK.cells
         have z8:=VK.free 8
         rw [hwl] at y8
         clear VK VL hX2 hWd iJ hcut hwl y0 y1 y2 y3 y4 y5 y6 y7 y9
         go_upto_region 17 with fail
         refine AF (T:=fun j=>j==14) (S:=fun w'=>w'.cell? ⟨a,8,none⟩=some (.slice (some ⟨gw,0,none⟩) (way.length+1) cW2)∧w'.frozen? ⟨a,8,none⟩=false) (by kernel_rfl) (⟨y8,z8⟩) (fun hHeld=>?_)
         refine qs 0 92 hHeld ?_
         refine qs 1 93 hHeld ?_
         refine qs 2 94 hHeld ?_
         refine qs 3 95 hHeld ?_
         refine qf 4 96 rfl rfl hHeld (by intro w hSw;have y8:=hSw.1;go_simp;(try with_reducible rfl)) ?_
         refine qs 5 97 hHeld ?_
         refine qs 6 98 hHeld ?_
         refine qs 7 99 hHeld ?_
         refine qf 8 100 rfl rfl hHeld (by intro w hSw;have y8:=hSw.1;go_simp;(try with_reducible rfl)) ?_
         refine qs 9 101 hHeld ?_
         refine qs 10 102 hHeld ?_
         refine qs 11 103 hHeld ?_
         refine qo 12 fun K hK=>?_
         go_simp
         refine hK.out _ _ (fun _=>hHeld) (fun _=>?_)
         clear hK K
         (try simp only [Act.put,qS])
         refine qs 13 105 hHeld ?_
         refine qo 14 fun K hK=>?_
         have z8:=hHeld.2
         go_simp
         refine hK.out _ _ (fun h=>by cases h) (fun _=>?_)
         clear hK K hHeld
         (try simp only [Act.put,qS])
         refine qd ?_
         go_wp2_with fail
         first
          | exact bodyPost_ret (results_none rfl _ _ _) rfl ⟨⟨_,rfl⟩,L6.out⟩
          | exact ⟨rfl,_,results_none rfl _ _ _,⟨_,rfl⟩,L6.out⟩
end
end Go.Proofs.YtpenklpdjpkigaaGreat
