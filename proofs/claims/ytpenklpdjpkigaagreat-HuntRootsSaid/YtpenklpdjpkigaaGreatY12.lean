/- Part 12 of the proof: WRDetail, WRForm. -/
import Derived.Test.YtpenklpdjpkigaaGreatY11
import Derived.Test.YtpenklpdjpkigaaGreatY10
import Derived.Test.YtpenklpdjpkigaaGreatY6
import Derived.Test.YtpenklpdjpkigaaGreatY8
import Derived.Test.YtpenklpdjpkigaaGreatY4
import Derived.Test.YtpenklpdjpkigaaGreatY1
set_option maxHeartbeats 6400000
set_option linter.unusedVariables false
set_option linter.unusedSimpArgs false
namespace Go.Proofs.YtpenklpdjpkigaaGreat
section
open Go.RowKit
attribute [local go_sem] Oper.semAt_some
theorem L9 (w:World) (l:List Int) (T:TypeId) (S:Nat→Prop) (hS:S w.heap.size):BX (Flat fun n:Int=>[.int .i64 n]) 1 0 (w.alloc (.cells (AB encI l).toArray T)) S (some ⟨w.heap.size,0,none⟩) l:=fun _ =>
 ⟨w.heap.size,0,rfl,hS,fun k hk=>⟨[.int .i64 (nth 0 l k)],rfl,rfl,fun j u hu=>by
  rcases j with _|j
  · have h1:=Cm w (AB encI l) T k u (by
      rw [CU,List.getElem?_map,List.getElem?_eq_getElem hk]
      simp at hu
      rw [← hu,Ac 0 l k hk]
      rfl)
    rw [add_lit] at h1
    simpa using h1
  · simp at hu⟩⟩
def okD (d:Dt):Bool:=LG 0 16384 d.mapped && LG 0 2147483647 d.tx && LG 0 16777215 d.made && LG 0 16777215 d.Bb
def Nr (d:Dt):List (Nat × Int):=[(8,d.mapped),(8,d.tx),(4,d.made),(4,d.Bb)]
set_option maxRecDepth 100000 in
theorem Ur (w:World) (d:Dt):Calls Tryz.prog 89 #[.agg #[.int .i64 d.mapped,.int .i64 d.tx,.int .i64 d.made,.int .i64 d.Bb]] w fun e w'=>e=.returned (.string (Am (if okD d=true then BB (Nr d) else [])))∧Below w.heap.size w w':=by
 have hB:=(Below.refl w.heap.size w).alloc (Nat.le_refl _) (.cells #[.int .i64 d.mapped,.int .i64 d.tx,.int .i64 d.made,.int .i64 d.Bb] 122)
 have h0:=AP.new w #[.int .i64 d.mapped,.int .i64 d.tx,.int .i64 d.made,.int .i64 d.Bb] 122
 have J2:=qh (fun w' n lo hi=>YO w' n lo hi)
 obtain ⟨m,t,c,s⟩:=d
 dsimp only at *
 obtain ⟨X,hX⟩:∃ X,(if okD ⟨m,t,c,s⟩=true then BB (Nr ⟨m,t,c,s⟩) else [])=X:=⟨_,rfl⟩
 rw [hX]
 have HX:=qh hX
 have HO:Hid (okD ⟨m,t,c,s⟩=(LG 0 16384 m && LG 0 2147483647 t && LG 0 16777215 c && LG 0 16777215 s)):=rfl
 clear hX
 go_enter Tryz.func89,Tryz.ntmps89
 go_upto_region 1 with fail
 generalize w.alloc (.cells #[.int .i64 m,.int .i64 t,.int .i64 c,.int .i64 s] 122)=w1 at *
 obtain ⟨x0,x1,x2,x3⟩:=h0.Cf
 have HB:=qh hB
 have H0:=qh h0
 clear hB h0
 have h1:=J2.out w1 m 0 16384
 have h2:=J2.out w1 t 0 2147483647
 have h3:=J2.out w1 c 0 16777215
 have h4:=J2.out w1 s 0 16777215
 have HI1:=qh h1
 have HI2:=qh h2
 have HI3:=qh h3
 have HI4:=qh h4
 clear h1 h2 h3 h4 J2
 by_cases hok:okD ⟨m,t,c,s⟩=true
 · have hok2:=HO.out.symm.trans hok
   rw [Bool.and_eq_true,Bool.and_eq_true,Bool.and_eq_true] at hok2
   obtain ⟨⟨⟨b1,b2⟩,b3⟩,b4⟩:=hok2
   have HP:Hid (BB (Nr ⟨m,t,c,s⟩)=X):=by
    have:=HX.out
    rw [if_pos hok] at this
    exact this
   rw [b1] at HI1
   rw [b2] at HI2
   rw [b3] at HI3
   rw [b4] at HI4
   have hfl:∀ f∈Nr ⟨m,t,c,s⟩,0≤f.2∧f.2<9223372036854775808∧f.1≤8:=by
    unfold LG at b1 b2 b3 b4
    simp only [Bool.and_eq_true,decide_eq_true_eq] at b1 b2 b3 b4
    intro f hf
    simp only [Nr,List.mem_cons,List.not_mem_nil,or_false] at hf
    rcases hf with rfl|rfl|rfl|rfl <;> dsimp only <;> omega
   have hr1:=L9 w1 [m,t,c,s] 3 (fun b=>b=w1.heap.size) rfl
   have hz2:(w1.alloc (.cells (AB encI [m,t,c,s]).toArray 3)).heap.size=w1.heap.size+1:=by simp
   have hr2:=L9 (w1.alloc (.cells (AB encI [m,t,c,s]).toArray 3)) [8,8,4,4] 3 (fun b=>w1.heap.size≤b∧b<w1.heap.size+2) (by omega)
   have yw:BX (Flat fun n:Int=>[.int .i64 n]) 1 0 ((w1.alloc (.cells (AB encI [m,t,c,s]).toArray 3)).alloc (.cells (AB encI [8,8,4,4]).toArray 3)) (fun b=>w1.heap.size≤b∧b<w1.heap.size+2) (some ⟨w1.heap.size,0,none⟩) [m,t,c,s] :=
    hr1.keep (S:=fun b=>b=w1.heap.size) (AA _) (fun b hb=>by omega) (EH (fun b hb=>by rw [hz2];omega) _)
   rw [hz2] at hr2
   have hTX:Calls Tryz.prog 148 #[.slice (some ⟨w1.heap.size,0,none⟩) 4 4,.slice (some ⟨w1.heap.size+1,0,none⟩) 4 4] ((w1.alloc (.cells #[.int .i64 m,.int .i64 t,.int .i64 c,.int .i64 s] 3)).alloc (.cells #[.int .i64 8,.int .i64 8,.int .i64 4,.int .i64 4] 3)) fun e w'=>e=.returned (.string (Am (BB (Nr ⟨m,t,c,s⟩))))∧Below ((w1.alloc (.cells #[.int .i64 m,.int .i64 t,.int .i64 c,.int .i64 s] 3)).alloc (.cells #[.int .i64 8,.int .i64 8,.int .i64 4,.int .i64 4] 3)).heap.size ((w1.alloc (.cells #[.int .i64 m,.int .i64 t,.int .i64 c,.int .i64 s] 3)).alloc (.cells #[.int .i64 8,.int .i64 8,.int .i64 4,.int .i64 4] 3)) w' :=
    Zo _ (fun b=>w1.heap.size≤b∧b<w1.heap.size+2) (some ⟨w1.heap.size,0,none⟩) (some ⟨w1.heap.size+1,0,none⟩) 4 4 (Nr ⟨m,t,c,s⟩) (fun b hb=>by simp;omega) yw hr2 (by simp [Nr]) hfl
   rw [HP.out] at hTX
   have Qm:Below w1.heap.size w1 ((w1.alloc (.cells #[.int .i64 m,.int .i64 t,.int .i64 c,.int .i64 s] 3)).alloc (.cells #[.int .i64 8,.int .i64 8,.int .i64 4,.int .i64 4] 3)):=((Below.refl _ _).alloc (Nat.le_refl _) _).alloc (by simp) _
   have Wh:=qh hTX
   have IG:=qh Qm
   clear hr1 hz2 hr2 yw hTX Qm hfl hok b1 b2 b3 b4
   go_wp2_with first
    | (go_at_call 147;with_reducible refine HI1.out.mono ?_;rintro e w1 ⟨rfl,rfl⟩)
    | (go_at_call 147;with_reducible refine HI2.out.mono ?_;rintro e w1 ⟨rfl,rfl⟩)
    | (go_at_call 147;with_reducible refine HI3.out.mono ?_;rintro e w1 ⟨rfl,rfl⟩)
    | (go_at_call 147;with_reducible refine HI4.out.mono ?_;rintro e w1 ⟨rfl,rfl⟩)
    | (go_at_call 148;refine Wh.out.mono ?_;rintro e w5 ⟨rfl,BS⟩)
   go_ret
   exact ⟨rfl,HB.out.trans ((IG.out.trans (BS.mono IG.out.size)).mono HB.out.size)⟩
 · have HP:Hid (X=[]):=by
     have:=HX.out
     rw [if_neg hok] at this
     exact this.symm
   have hok2:(LG 0 16384 m && LG 0 2147483647 t && LG 0 16777215 c && LG 0 16777215 s)=false:=by rw [← HO.out];simpa using hok
   clear HX hok HO
   generalize LG 0 16384 m=b1 at *
   generalize LG 0 2147483647 t=b2 at *
   generalize LG 0 16777215 c=b3 at *
   generalize LG 0 16777215 s=b4 at *
   have HK:=qh hok2
   clear hok2
   rcases b1 with _|_
   · go_wp2_with first
       | (go_at_call 147;with_reducible refine HI1.out.mono ?_;rintro e w1 ⟨rfl,rfl⟩)
     go_ret
     exact ⟨by rw [HP.out];rfl,HB.out⟩
   · rcases b2 with _|_
     · go_wp2_with first
         | (go_at_call 147;with_reducible refine HI1.out.mono ?_;rintro e w1 ⟨rfl,rfl⟩)
         | (go_at_call 147;with_reducible refine HI2.out.mono ?_;rintro e w1 ⟨rfl,rfl⟩)
       go_ret
       exact ⟨by rw [HP.out];rfl,HB.out⟩
     · rcases b3 with _|_
       · go_wp2_with first
           | (go_at_call 147;with_reducible refine HI1.out.mono ?_;rintro e w1 ⟨rfl,rfl⟩)
           | (go_at_call 147;with_reducible refine HI2.out.mono ?_;rintro e w1 ⟨rfl,rfl⟩)
           | (go_at_call 147;with_reducible refine HI3.out.mono ?_;rintro e w1 ⟨rfl,rfl⟩)
         go_ret
         exact ⟨by rw [HP.out];rfl,HB.out⟩
       · rcases b4 with _|_
         · go_wp2_with first
             | (go_at_call 147;with_reducible refine HI1.out.mono ?_;rintro e w1 ⟨rfl,rfl⟩)
             | (go_at_call 147;with_reducible refine HI2.out.mono ?_;rintro e w1 ⟨rfl,rfl⟩)
             | (go_at_call 147;with_reducible refine HI3.out.mono ?_;rintro e w1 ⟨rfl,rfl⟩)
             | (go_at_call 147;with_reducible refine HI4.out.mono ?_;rintro e w1 ⟨rfl,rfl⟩)
           go_ret
           exact ⟨by rw [HP.out];rfl,HB.out⟩
         · exact absurd HK.out (by simp)
theorem Wi {s:List UInt8} (hs:s.length=24):okD ⟨AC s 0 8,AC s 8 8,AC s 16 4,AC s 20 4⟩=true↔¬ (16384<AC s 0 8∨2147483647<AC s 8 8∨16777215<AC s 16 4∨16777215<AC s 20 4):=by
 unfold okD LG
 simp only [Bool.and_eq_true,decide_eq_true_eq]
 omega
theorem lu (d:Dt):BB (Nr d)≠[]:=fun e=>by
 have:=congrArg List.length e
 rw [ES] at this
 simp [Nr,Ct] at this
set_option maxRecDepth 100000 in
theorem Ns (w:World) (s:List UInt8) (hl:s.length≤140737488355328):Calls Tryz.prog 50 #[.string (Am s)] w fun e w'=>e=.returned (.tuple #[.agg #[.int .i64 (CP s).1.mapped,.int .i64 (CP s).1.tx,.int .i64 (CP s).1.made,.int .i64 (CP s).1.Bb],.int .i64 (CP s).2])∧Below w.heap.size w w':=by
 have hsz:=ER s
 have hB:=(Below.refl w.heap.size w).alloc (Nat.le_refl _) (.cells #[.int .i64 0,.int .i64 0,.int .i64 0,.int .i64 0] 122)
 have h0:=AP.new w #[.int .i64 0,.int .i64 0,.int .i64 0,.int .i64 0] 122
 obtain ⟨F,hF⟩:∃ F,CP s=F:=⟨_,rfl⟩
 rw [hF]
 unfold CP at hF
 have HF:=qh hF
 clear hF
 go_enter Tryz.func50,Tryz.ntmps50
 go_upto_region 1 with fail
 generalize w.alloc (.cells #[.int .i64 0,.int .i64 0,.int .i64 0,.int .i64 0] 122)=w1 at *
 have hlt1:=h0.lt
 obtain ⟨x0,x1,x2,x3⟩:=h0.Cf
 obtain ⟨z0,z1,z2,z3⟩:=h0.JV
 have HB:=qh hB
 have H0:=qh h0
 clear hB h0
 have Wd:Hid (∀ w4 u0 u1 u2 u3,Below w1.heap.size w1 w4→AP ((((w4.setCell ⟨w.heap.size,0,none⟩ u0).setCell ⟨w.heap.size,1,none⟩ u1).setCell ⟨w.heap.size,2,none⟩ u2).setCell ⟨w.heap.size,3,none⟩ u3) w.heap.size #[u0,u1,u2,u3] 122∧Below w.heap.size w ((((w4.setCell ⟨w.heap.size,0,none⟩ u0).setCell ⟨w.heap.size,1,none⟩ u1).setCell ⟨w.heap.size,2,none⟩ u2).setCell ⟨w.heap.size,3,none⟩ u3)):=fun w4 u0 u1 u2 u3 hB4 =>
  ⟨(H0.out.below hB4 hlt1).sH u0 u1 u2 u3,(HB.out.trans (hB4.mono HB.out.size)).trans (((O1 w4 w.heap.size u0 u1 u2 u3).weak (R':=fun x=>w.heap.size≤x) (fun x e=>by omega)).below (fun x h=>h) (by have:=hB4.size;omega))⟩
 by_cases xX:s.length=24
 · rw [xX] at hsz
   have hcv:=Lib.run_convert_string_bytes (P:=Tryz.prog) w1 9 22 5 (Am s) (u:=.string) Tryz.underlying9 Tryz.underlying22 Tryz.underlying5
   rw [hsz] at hcv
   have hb:=IE w1 s
   have hcap:24≤grownCap w1 24 0 5:=grownCap_ge w1 24 0 5
   have hB2:=bytesWorld_below w1 s
   generalize grownCap w1 24 0 5=cc at *
   generalize Lib.bytesWorld w1 5 (Am s)=w2 at *
   have hBL:Below w2.heap.size w2 (w2.alloc (.cells #[.int .i64 8,.int .i64 8,.int .i64 4,.int .i64 4] 3)):=(Below.refl _ _).alloc (Nat.le_refl _) _
   have hrw:=L9 w2 [8,8,4,4] 3 (fun b=>w1.heap.size≤b∧b<w2.heap.size+1) ⟨hB2.size,by omega⟩
   have hUP:Calls Tryz.prog 88 #[.slice (some ⟨w1.heap.size,0,none⟩) 24 cc,.slice (some ⟨w2.heap.size,0,none⟩) 4 4] (w2.alloc (.cells #[.int .i64 8,.int .i64 8,.int .i64 4,.int .i64 4] 3)) fun e w'=>Iy (w2.alloc (.cells #[.int .i64 8,.int .i64 8,.int .i64 4,.int .i64 4] 3)) s [8,8,4,4] e w'∧Below (w2.alloc (.cells #[.int .i64 8,.int .i64 8,.int .i64 4,.int .i64 4] 3)).heap.size (w2.alloc (.cells #[.int .i64 8,.int .i64 8,.int .i64 4,.int .i64 4] 3)) w':=by
    have hby:AX (w2.alloc (.cells #[.int .i64 8,.int .i64 8,.int .i64 4,.int .i64 4] 3)) (fun b=>w1.heap.size≤b∧b<w2.heap.size+1) (.slice (some ⟨w1.heap.size,0,none⟩) s.length cc) s:=(hb.below hBL hb.lt).isl ⟨by omega,by have:=hb.lt;omega⟩ (by omega)
    rw [xX] at hby
    exact NU _ (fun b=>w1.heap.size≤b∧b<w2.heap.size+1) _ _ s [8,8,4,4] (fun b hb=>by simp;omega) hby ⟨_,4,rfl,by simp [Hm],hrw⟩ (by intro x hx;simp at hx;rcases hx with rfl|rfl <;> simp [Lh]) (by rw [xX];simp [Ct]) hl (by simp)
   have fZ:=qh hUP
   have IX:=qh hBL
   have HB2:=qh hB2
   clear hb hcap hB2 hBL hrw hUP
   have HB3:=qh (HB.out.trans (((HB2.out.trans (IX.out.mono HB2.out.size)).mono HB.out.size)))
   have EE:=qh (HB2.out.trans (IX.out.mono HB2.out.size))
   have OM:Hid ((if 16384<AC s 0 8∨2147483647<AC s 8 8∨16777215<AC s 16 4∨16777215<AC s 20 4 then (xM,2) else (⟨AC s 0 8,AC s 8 8,AC s 16 4,AC s 20 4⟩,0))=F):=by
    have:=HF.out
    rw [if_neg (by omega)] at this
    exact this
   have lv:=qh (Wi xX)
   have HUB:Hid (FR s 0 [8,8,4,4]=true→16384<AC s 0 8∨2147483647<AC s 8 8∨16777215<AC s 16 4∨16777215<AC s 20 4):=fun h=>by
    simp only [FR,Bool.or_eq_true,decide_eq_true_eq,Bool.false_eq_true,or_false,Nat.zero_add,Nat.reduceAdd] at h
    omega
   have xY:Hid (EA s 0 [8,8,4,4]=[(AC s 0 8:Int),(AC s 8 8:Int),(AC s 16 4:Int),(AC s 20 4:Int)]):=rfl
   have yx:w1.heap.size≤(w2.alloc (.cells #[.int .i64 8,.int .i64 8,.int .i64 4,.int .i64 4] 3)).heap.size:=EE.out.size
   generalize AC s 0 8=a at *
   generalize AC s 8 8=b at *
   generalize AC s 16 4=c at *
   generalize AC s 20 4=d at *
   generalize Am s=sb at *
   clear HF hl xX IX HB2
   by_cases hbig:FR s 0 [8,8,4,4]=true
   · have HU2:Hid (Calls Tryz.prog 88 #[.slice (some ⟨w1.heap.size,0,none⟩) 24 cc,.slice (some ⟨w2.heap.size,0,none⟩) 4 4] (w2.alloc (.cells #[.int .i64 8,.int .i64 8,.int .i64 4,.int .i64 4] 3)) fun e w'=>e=.returned (.tuple #[.slice none 0 0,.int .i64 2])∧Below (w2.alloc (.cells #[.int .i64 8,.int .i64 8,.int .i64 4,.int .i64 4] 3)).heap.size (w2.alloc (.cells #[.int .i64 8,.int .i64 8,.int .i64 4,.int .i64 4] 3)) w'):=fZ.out.mono fun e w' ⟨h,hB⟩=>by
       unfold Iy at h
       rw [if_pos hbig] at h
       exact ⟨h,hB⟩
     have tQ:Hid ((xM,2)=F):=by
      have:=OM.out
      rw [if_pos (HUB.out hbig)] at this
      exact this
     clear hbig fZ OM HUB xY
     go_upto_region 5 with (go_at_call 88;refine HU2.out.mono ?_;rintro e w4 ⟨rfl,hB4⟩;have CL:=qh (EE.out.trans (hB4.mono yx));clear hB4)
     have x0:=AQ CL.out hlt1 x0
     have x1:=AQ CL.out hlt1 x1
     have x2:=AQ CL.out hlt1 x2
     have x3:=AQ CL.out hlt1 x3
     obtain ⟨z0,z1,z2,z3⟩:=(H0.out.below CL.out hlt1).JV
     obtain ⟨hb,Qm⟩:=Wd.out w4 (.int .i64 0) (.int .i64 0) (.int .i64 0) (.int .i64 0) CL.out
     obtain ⟨r0,r1,r2,r3⟩:=hb.Cf
     have IG:=qh Qm
     clear hb Qm
     go_wp2_with fail
     exact bodyPost_ret (v:=.tuple #[.agg #[.int .i64 0,.int .i64 0,.int .i64 0,.int .i64 0],.int .i64 2]) (by simp [results,Tryz.results50,go_sem,r0,r1,r2,r3]) rfl ⟨by rw [← tQ.out];rfl,IG.out⟩
   · have HU2:Hid (Calls Tryz.prog 88 #[.slice (some ⟨w1.heap.size,0,none⟩) 24 cc,.slice (some ⟨w2.heap.size,0,none⟩) 4 4] (w2.alloc (.cells #[.int .i64 8,.int .i64 8,.int .i64 4,.int .i64 4] 3)) fun e w'=>(∃ g o c',e=.returned (.tuple #[.slice (some ⟨g,o,none⟩) 4 c',.int .i64 0])∧g<w'.heap.size∧w'.cell? ⟨g,o,none⟩=some (.int .i64 a)∧w'.cell? ⟨g,o+1,none⟩=some (.int .i64 b)∧w'.cell? ⟨g,o+2,none⟩=some (.int .i64 c)∧w'.cell? ⟨g,o+3,none⟩=some (.int .i64 d))∧Below (w2.alloc (.cells #[.int .i64 8,.int .i64 8,.int .i64 4,.int .i64 4] 3)).heap.size (w2.alloc (.cells #[.int .i64 8,.int .i64 8,.int .i64 4,.int .i64 4] 3)) w'):=fZ.out.mono fun e w' ⟨h,hB⟩=>by
       unfold Iy at h
       rw [if_neg hbig,xY.out] at h
       obtain ⟨v,he,A,c',rfl,hc',hr⟩:=h
       obtain ⟨g,o,rfl,hg,hq⟩:=BR hr (by simp)
       exact ⟨⟨g,o,c',he,hg.2,hq 0 (by simp),hq 1 (by simp),hq 2 (by simp),hq 3 (by simp)⟩,hB⟩
     clear hbig fZ HUB xY
     go_upto_region 6 with (go_at_call 88;refine HU2.out.mono ?_;rintro e w4 ⟨⟨g,o,c',rfl,hg,q0,q1,q2,q3⟩,hB4⟩;have CL:=qh (EE.out.trans (hB4.mono yx));clear hB4)
     have hs4:=CL.out.size
     refine AF (T:=fun j=>j==14) (S:=fun w'=>w'.cell? ⟨g,o,none⟩=some (.int .i64 a)∧w'.cell? ⟨g,o+1,none⟩=some (.int .i64 b)∧w'.cell? ⟨g,o+2,none⟩=some (.int .i64 c)∧w'.cell? ⟨g,o+3,none⟩=some (.int .i64 d)) (by kernel_rfl) (⟨q0,q1,q2,q3⟩) (fun hHeld=>?_)
     refine qs 0 21 hHeld ?_
     refine qs 1 22 hHeld ?_
     refine qf 2 23 rfl rfl hHeld (by intro w hSw;have q0:=hSw.1;go_simp;(try with_reducible rfl)) ?_
     refine qs 3 24 hHeld ?_
     refine qs 4 25 hHeld ?_
     refine qf 5 26 rfl rfl hHeld (by intro w hSw;have q1:=hSw.2.1;go_simp;(try with_reducible rfl)) ?_
     refine qs 6 27 hHeld ?_
     refine qs 7 28 hHeld ?_
     refine qf 8 29 rfl rfl hHeld (by intro w hSw;have q2:=hSw.2.2.1;go_simp;(try with_reducible rfl)) ?_
     refine qs 9 30 hHeld ?_
     refine qs 10 31 hHeld ?_
     refine qf 11 32 rfl rfl hHeld (by intro w hSw;have q3:=hSw.2.2.2;go_simp;(try with_reducible rfl)) ?_
     refine qs 12 33 hHeld ?_
     refine qo 13 fun K hK=>?_
     go_simp
     clear hHeld
     have hHeld:=(show World.cell? (w4.drew.alloc (.cells #[.int .i64 0,.int .i64 0,.int .i64 0,.int .i64 0] 122)) ⟨g,o,none⟩=some (.int .i64 a)∧World.cell? (w4.drew.alloc (.cells #[.int .i64 0,.int .i64 0,.int .i64 0,.int .i64 0] 122)) ⟨g,o+1,none⟩=some (.int .i64 b)∧World.cell? (w4.drew.alloc (.cells #[.int .i64 0,.int .i64 0,.int .i64 0,.int .i64 0] 122)) ⟨g,o+2,none⟩=some (.int .i64 c)∧World.cell? (w4.drew.alloc (.cells #[.int .i64 0,.int .i64 0,.int .i64 0,.int .i64 0] 122)) ⟨g,o+3,none⟩=some (.int .i64 d) from ⟨(World.cell?_of_block (a:=⟨g,o,none⟩) (Below.heap_alloc w4.drew _ _ hg)).trans q0,(World.cell?_of_block (a:=⟨g,o+1,none⟩) (Below.heap_alloc w4.drew _ _ hg)).trans q1,(World.cell?_of_block (a:=⟨g,o+2,none⟩) (Below.heap_alloc w4.drew _ _ hg)).trans q2,(World.cell?_of_block (a:=⟨g,o+3,none⟩) (Below.heap_alloc w4.drew _ _ hg)).trans q3⟩)
     refine hK.out _ _ (fun _=>hHeld) (fun _=>?_)
     clear hK K
     (try simp only [Act.put,qS])
     refine qo 14 fun K hK=>?_
     go_simp
     refine hK.out _ _ (fun h=>by cases h) (fun _=>?_)
     clear hK K hHeld
     (try simp only [Act.put,qS])
     refine qd ?_
     have hd6:AP ((w4.alloc (.cells #[.int .i64 (a:Int),.int .i64 (b:Int),.int .i64 (c:Int),.int .i64 (d:Int)] 122)).drew) w4.heap.size #[.int .i64 (a:Int),.int .i64 (b:Int),.int .i64 (c:Int),.int .i64 (d:Int)] 122:=AP.new w4 #[.int .i64 (a:Int),.int .i64 (b:Int),.int .i64 (c:Int),.int .i64 (d:Int)] 122
     have EG:Below w1.heap.size w1 ((w4.alloc (.cells #[.int .i64 (a:Int),.int .i64 (b:Int),.int .i64 (c:Int),.int .i64 (d:Int)] 122)).drew):=(CL.out.alloc hs4 _).drew
     generalize (w4.alloc (.cells #[.int .i64 (a:Int),.int .i64 (b:Int),.int .i64 (c:Int),.int .i64 (d:Int)] 122)).drew=w6 at *
     have HD:=qh (Ur w6 ⟨a,b,c,d⟩)
     obtain ⟨p0,p1,p2,p3⟩:=hd6.Cf
     have HD6:=qh hd6
     have Dz:=qh EG
     have hp6:=hd6.lt
     clear hd6 EG q0 q1 q2 q3 hg
     by_cases hok:okD ⟨a,b,c,d⟩=true
     · rw [if_pos hok] at HD
       have tQ:Hid ((⟨a,b,c,d⟩,0)=F):=by
        have:=OM.out
        rw [if_neg (lv.out.1 hok)] at this
        exact this
       have e1:(Am (BB (Nr ⟨a,b,c,d⟩))).toList.isEmpty=false:=by rw [Iu,List.isEmpty_eq_false_iff];exact lu _
       generalize Am (BB (Nr ⟨a,b,c,d⟩))=sx at *
       clear hok OM lv
       go_upto_region 9 with (go_at_call 89;refine HD.out.mono ?_;rintro e w7 ⟨rfl,Ff⟩;have Ew:=qh (Dz.out.trans (Ff.mono Dz.out.size));have Sr:=qh Ff;clear Ff)
       have p0:=AQ Sr.out hp6 p0
       have p1:=AQ Sr.out hp6 p1
       have p2:=AQ Sr.out hp6 p2
       have p3:=AQ Sr.out hp6 p3
       have x0:=AQ Ew.out hlt1 x0
       have x1:=AQ Ew.out hlt1 x1
       have x2:=AQ Ew.out hlt1 x2
       have x3:=AQ Ew.out hlt1 x3
       obtain ⟨z0,z1,z2,z3⟩:=(H0.out.below Ew.out hlt1).JV
       obtain ⟨hb,Qm⟩:=Wd.out w7 (.int .i64 (a:Int)) (.int .i64 (b:Int)) (.int .i64 (c:Int)) (.int .i64 (d:Int)) Ew.out
       obtain ⟨r0,r1,r2,r3⟩:=hb.Cf
       have IG:=qh Qm
       clear hb Qm
       go_wp2_with fail
       exact bodyPost_ret (v:=.tuple #[.agg #[.int .i64 (a:Int),.int .i64 (b:Int),.int .i64 (c:Int),.int .i64 (d:Int)],.int .i64 0]) (by simp [results,Tryz.results50,go_sem,r0,r1,r2,r3]) rfl ⟨by rw [← tQ.out],IG.out⟩
     · rw [if_neg hok] at HD
       have tQ:Hid ((xM,2)=F):=by
        have:=OM.out
        rw [if_pos (Decidable.not_not.1 (fun h=>hok (lv.out.2 h)))] at this
        exact this
       have e1:(Am []).toList.isEmpty=true:=by rw [Iu];rfl
       generalize Am []=sx at *
       clear hok OM lv
       go_upto_region 8 with (go_at_call 89;refine HD.out.mono ?_;rintro e w7 ⟨rfl,Ff⟩;have Ew:=qh (Dz.out.trans (Ff.mono Dz.out.size));clear Ff)
       have x0:=AQ Ew.out hlt1 x0
       have x1:=AQ Ew.out hlt1 x1
       have x2:=AQ Ew.out hlt1 x2
       have x3:=AQ Ew.out hlt1 x3
       obtain ⟨z0,z1,z2,z3⟩:=(H0.out.below Ew.out hlt1).JV
       obtain ⟨hb,Qm⟩:=Wd.out w7 (.int .i64 0) (.int .i64 0) (.int .i64 0) (.int .i64 0) Ew.out
       obtain ⟨r0,r1,r2,r3⟩:=hb.Cf
       have IG:=qh Qm
       clear hb Qm
       go_wp2_with fail
       exact bodyPost_ret (v:=.tuple #[.agg #[.int .i64 0,.int .i64 0,.int .i64 0,.int .i64 0],.int .i64 2]) (by simp [results,Tryz.results50,go_sem,r0,r1,r2,r3]) rfl ⟨by rw [← tQ.out];rfl,IG.out⟩
 · have hne:((s.length:Int)==24)=false:=beq_false_of_ne (by omega)
   have OM:Hid ((xM,7)=F):=by
    have:=HF.out
    rw [if_pos xX] at this
    exact this
   obtain ⟨hb,Qm⟩:=Wd.out w1 (.int .i64 0) (.int .i64 0) (.int .i64 0) (.int .i64 0) (Below.refl _ _)
   obtain ⟨r0,r1,r2,r3⟩:=hb.Cf
   have IG:=qh Qm
   generalize s.length=n at *
   generalize Am s=sb at *
   clear hb Qm
   go_wp2_with fail
   exact bodyPost_ret (v:=.tuple #[.agg #[.int .i64 0,.int .i64 0,.int .i64 0,.int .i64 0],.int .i64 7]) (by simp [results,Tryz.results50,go_sem,r0,r1,r2,r3]) rfl ⟨by rw [← OM.out];rfl,IG.out⟩
end
section
open Go.RowKit
attribute [local go_sem] Oper.semAt_some
theorem PL {l:List UInt8} {a:Nat} (h:a<l.length):AC l a 1=(nth 0 l a).toNat:=by
 unfold AC
 rw [G6 h]
 simp [BN,EL]
theorem YP {l:List UInt8} (hl:l.length=244):Gr l=true↔AC l 0 1≤1∧BF (AC l 1 1) (decide (AC l 0 1=1))≠0∧AC l 2 2≤BZ (AC l 1 1) (decide (AC l 0 1=1))∧AC l 4 2=BF (AC l 1 1) (decide (AC l 0 1=1))∧AC l 6 2=BZ (AC l 1 1) (decide (AC l 0 1=1))∧AC l 8 4=0∧(AC l 0 1=1∨0<AC l 2 2) ∧
 D9 (BN l (12+AC l 2 2*8) (BZ (AC l 1 1) (decide (AC l 0 1=1))*8-AC l 2 2*8))=true∧D9 (l.drop (12+BZ (AC l 1 1) (decide (AC l 0 1=1))*8+AC l 2 2*BF (AC l 1 1) (decide (AC l 0 1=1))))=true:=by
 unfold Gr FZ
 simp only [Bool.and_eq_true,Bool.or_eq_true,decide_eq_true_eq,hl]
 constructor
 · rintro ⟨⟨⟨⟨⟨⟨⟨⟨⟨_,h1⟩,h2⟩,h3⟩,h4⟩,h5⟩,h6⟩,h7⟩,h8⟩,h9⟩
   exact ⟨h1,h2,h3,h4,h5,h6,h7,h8,h9⟩
 · rintro ⟨h1,h2,h3,h4,h5,h6,h7,h8,h9⟩
   exact ⟨⟨⟨⟨⟨⟨⟨⟨⟨trivial,h1⟩,h2⟩,h3⟩,h4⟩,h5⟩,h6⟩,h7⟩,h8⟩,h9⟩
set_option maxRecDepth 100000 in
theorem Zr (w:World) (S:Nat→Prop) (v:Value) (l:List UInt8) (hS:∀ b,S b→b<w.heap.size) (h:AX w S v l) (hl:l.length=244) :
 Calls Tryz.prog 241 #[v] w fun e w'=>e=.returned (.bool (Gr l))∧Below w.heap.size w w':=by
 have OO:=qh (YP hl)
 have hIS:=h
 obtain ⟨A,c,rfl,hc,hr⟩:=h
 obtain ⟨g,off,rfl,hg,hcl⟩:=BU hr (by omega)
 have Zk:=qh (fun w' (hB:Below w.heap.size w w') a n (ha:a+n≤l.length)=>Ze w' S _ (BN l a n) (fun b hb=>Nat.lt_of_lt_of_le (hS b hb) hB.size) (O4 (a:=a) (n:=n) (hr.keep (AA _) (fun _ h=>h) (AL hB hS)) hc ha) (by have:=Nat.min_le_left n (l.length-a);simp [BN];omega))
 have fZ:=qh (fun w' vw (hB:Below w.heap.size w w') (hw:Aa w' (fun b=>b<w'.heap.size) vw (Hm [1,1,2,2,2,4]))=>NU w' (fun b=>b<w'.heap.size) _ vw l [1,1,2,2,2,4] (fun b hb=>hb) (hIS.keep (AA _) (fun b hb=>Nat.lt_of_lt_of_le (hS b hb) hB.size) (AL hB hS)) hw (by intro x hx;simp at hx;rcases hx with rfl|rfl|rfl <;> simp [Lh]) (by rw [hl];simp [Ct]) (by omega) (by simp))
 have HDR:Hid (∀ a,a≤244→BN l a (244-a)=l.drop a):=fun a ha=>RL (by omega)
 have c0:=hcl 0 (by omega)
 have hq0:=PL (l:=l) (a:=0) (by omega)
 rw [Nat.add_zero,← hq0] at c0
 have xY:Hid (EA l 0 [1,1,2,2,2,4]=[(AC l 0 1:Int),(AC l 1 1:Int),(AC l 2 2:Int),(AC l 4 2:Int),(AC l 6 2:Int),(AC l 8 4:Int)]):=rfl
 have p9:Hid (FR l 0 [1,1,2,2,2,4]=false):=K7 l _ _ (by intro x hx;simp at hx;omega)
 have l2:=Dk (l:=l) (a:=2) (n:=2)
 have l1:=Dk (l:=l) (a:=1) (n:=1)
 have hgw:=hS g hg
 rw [hl] at hc Zk fZ ⊢
 have HL:=qh hl
 obtain ⟨F,hF⟩:∃ F,Gr l=F:=⟨_,rfl⟩
 rw [hF] at OO ⊢
 clear hcl hr hIS hq0 hl hF
 generalize AC l 0 1=q0 at *
 generalize AC l 1 1=q1 at *
 generalize AC l 2 2=q2 at *
 generalize AC l 4 2=q3 at *
 generalize AC l 6 2=q4 at *
 generalize AC l 8 4=q5 at *
 go_enter Tryz.func241,Tryz.ntmps241
 by_cases hq:q0≤1
 · have hqz:¬ (1:Int)<(q0:Int):=by omega
   have hBL:Below w.heap.size w (w.alloc (.cells #[.int .i64 1,.int .i64 1,.int .i64 2,.int .i64 2,.int .i64 2,.int .i64 4] 3)):=(Below.refl _ _).alloc (Nat.le_refl _) _
   have HU:Hid (Calls Tryz.prog 88 #[.slice (some ⟨g,off,none⟩) 244 c,.slice (some ⟨w.heap.size,0,none⟩) 6 6] (w.alloc (.cells #[.int .i64 1,.int .i64 1,.int .i64 2,.int .i64 2,.int .i64 2,.int .i64 4] 3)) fun e w'=>(∃ g o c',e=.returned (.tuple #[.slice (some ⟨g,o,none⟩) 6 c',.int .i64 0])∧g<w'.heap.size∧w'.cell? ⟨g,o,none⟩=some (.int .i64 q0)∧w'.cell? ⟨g,o+1,none⟩=some (.int .i64 q1)∧w'.cell? ⟨g,o+2,none⟩=some (.int .i64 q2)∧w'.cell? ⟨g,o+3,none⟩=some (.int .i64 q3)∧w'.cell? ⟨g,o+4,none⟩=some (.int .i64 q4)∧w'.cell? ⟨g,o+5,none⟩=some (.int .i64 q5))∧Below w.heap.size w w') :=
    (fZ.out _ (.slice (some ⟨w.heap.size,0,none⟩) 6 6) hBL ⟨_,6,rfl,by simp [Hm],L9 w [1,1,2,2,2,4] 3 _ (by simp)⟩).mono fun e w' ⟨h,hB⟩=>by
     unfold Iy at h
     rw [if_neg (by rw [p9.out];simp),xY.out] at h
     obtain ⟨v,he,A,c',rfl,hc',hr⟩:=h
     obtain ⟨g',o,rfl,hg',hq⟩:=BR hr (by simp)
     exact ⟨⟨g',o,c',he,hg'.2,hq 0 (by simp),hq 1 (by simp),hq 2 (by simp),hq 3 (by simp),hq 4 (by simp),hq 5 (by simp)⟩,hBL.trans (hB.mono hBL.size)⟩
   have yz:=qh hq
   clear hBL fZ xY p9 hq
   go_upto_region 4 with (go_at_call 88;refine HU.out.mono ?_;rintro e w2 ⟨⟨gi,o,c',rfl,hgi,k0,k1,k2,k3,k4,k5⟩,hB2⟩;have HB2:=qh hB2;clear hB2)
   have hlf:((q0:Int)==1)=decide (q0=1):=by
    rw [Bool.eq_iff_iff,beq_iff_eq,decide_eq_true_eq]
    omega
   obtain ⟨lf,tV⟩:∃ lf,decide (q0=1)=lf:=⟨_,rfl⟩
   rw [tV] at OO hlf
   have lZ:Hid (q0=1↔lf=true):=by
    show _↔_
    rw [← tV,decide_eq_true_eq]
   have HW:=qh (fun w'=>Jz w' (q1:Int) lf)
   have HM:=qh (fun w'=>RV w' (q1:Int) lf)
   have hWM:=Fb (q1:Int) lf
   generalize BF (q1:Int) lf=W at *
   generalize BZ (q1:Int) lf=M at *
   clear tV
   have HC:Hid (∀ w',Below w2.heap.size w2 w'→w'.cell? ⟨gi,o,none⟩=some (.int .i64 q0)∧w'.cell? ⟨gi,o+1,none⟩=some (.int .i64 q1)∧w'.cell? ⟨gi,o+2,none⟩=some (.int .i64 q2)∧w'.cell? ⟨gi,o+3,none⟩=some (.int .i64 q3)∧w'.cell? ⟨gi,o+4,none⟩=some (.int .i64 q4)∧w'.cell? ⟨gi,o+5,none⟩=some (.int .i64 q5)):=fun w' hB=>⟨AQ hB hgi k0,AQ hB hgi k1,AQ hB hgi k2,AQ hB hgi k3,AQ hB hgi k4,AQ hB hgi k5⟩
   have xZ:Hid (∀ w',Below w.heap.size w w'→w'.cell? ⟨g,off,none⟩=some (.int .u8 q0)):=fun w' hB=>AQ hB hgw c0
   have HQL:Hid (q2<65536):=l2
   clear hgi l1 l2
   go_upto_region 7 with first
    | (go_at_call 242;refine (HW.out _).mono ?_;rintro e w3 ⟨rfl,hB3⟩;have HB3:=qh hB3;clear hB3 k0 k1 k2 k3 k4 k5;obtain ⟨k0,k1,k2,k3,k4,k5⟩:=HC.out w3 HB3.out)
    | (go_at_call 243;refine (HM.out _).mono ?_;rintro e w4 ⟨rfl,hB4⟩;have CL:=qh (HB3.out.trans (hB4.mono HB3.out.size));clear hB4 k0 k1 k2 k3 k4 k5;obtain ⟨k0,k1,k2,k3,k4,k5⟩:=HC.out w4 CL.out)
   have HB:=qh (HB2.out.trans (CL.out.mono HB2.out.size))
   clear HC xZ HW HM HU c0 hlf
   have Np:Hid (¬ (W≠0∧q2≤M∧q3=W∧q4=M∧q5=0∧(lf=true∨0<q2))→F=false):=fun hn=>by
    rw [← Bool.not_eq_true,OO.out]
    rintro ⟨_,h1,h2,h3,h4,h5,h6,_⟩
    exact hn ⟨h1,h2,h3,h4,h5,h6.imp lZ.out.1 id,⟩
   by_cases g1:W=0
   · have HF:=qh (Np.out (fun h=>h.1 g1))
     subst g1
     go_wp2_with fail
     go_ret
     exact ⟨by rw [HF.out];rfl,HB.out⟩
   have g1b:((W:Int)==0)=false:=beq_false_of_ne (by omega)
   by_cases g3:q3=W
   case neg =>
    have HF:=qh (Np.out (fun h=>g3 h.2.2.1))
    have g3b:((q3:Int)==(W:Int))=false:=beq_false_of_ne (by omega)
    have g3bn:((q3:Int) != (W:Int))=true:=by unfold bne;rw [g3b];rfl
    clear g3 g1
    go_wp2_with fail
    go_ret
    exact ⟨by rw [HF.out];rfl,HB.out⟩
   case pos =>
   have g3b:((q3:Int)==(W:Int))=true:=by rw [g3];simp
   have g3bn:((q3:Int) != (W:Int))=false:=by unfold bne;rw [g3b];rfl
   have G3:=qh g3
   clear g3
   by_cases g4:q4=M
   case neg =>
    have HF:=qh (Np.out (fun h=>g4 h.2.2.2.1))
    have g4b:((q4:Int)==(M:Int))=false:=beq_false_of_ne (by omega)
    have g4bn:((q4:Int) != (M:Int))=true:=by unfold bne;rw [g4b];rfl
    clear g4 g1
    go_wp2_with fail
    go_ret
    exact ⟨by rw [HF.out];rfl,HB.out⟩
   case pos =>
   have g4b:((q4:Int)==(M:Int))=true:=by rw [g4];simp
   have g4bn:((q4:Int) != (M:Int))=false:=by unfold bne;rw [g4b];rfl
   have G4:=qh g4
   clear g4
   by_cases g5:q5=0
   case neg =>
    have HF:=qh (Np.out (fun h=>g5 h.2.2.2.2.1))
    have g5b:((q5:Int)==0)=false:=beq_false_of_ne (by omega)
    have g5bn:((q5:Int) != 0)=true:=by unfold bne;rw [g5b];rfl
    clear g5 g1
    go_wp2_with fail
    go_ret
    exact ⟨by rw [HF.out];rfl,HB.out⟩
   case pos =>
   have g5b:((q5:Int)==0)=true:=by rw [g5];rfl
   have g5bn:((q5:Int) != 0)=false:=by unfold bne;rw [g5b];rfl
   have G5:=qh g5
   clear g5
   by_cases g2:q2≤M
   case neg =>
    have HF:=qh (Np.out (fun h=>g2 h.2.1))
    have g2b:decide ((M:Int)<(q2:Int))=true:=decide_eq_true (by omega)
    have g2z:(M:Int)<(q2:Int):=by omega
    clear g2 g1
    go_wp2_with fail
    go_ret
    exact ⟨by rw [HF.out];rfl,HB.out⟩
   case pos =>
   have g2b:decide ((M:Int)<(q2:Int))=false:=decide_eq_false (by omega)
   have g2n:decide (M<q2)=false:=decide_eq_false (by omega)
   by_cases g6:lf=true∨0<q2
   case neg =>
    have HF:=qh (Np.out (fun h=>g6 h.2.2.2.2.2))
    have g6a:lf=false:=by cases lf;rfl;exact absurd (.inl rfl) g6
    have g6e:q2=0:=by omega
    have g6c:((q2:Int)==0)=true:=by rw [g6e];rfl
    subst g6a
    have g6d:((q2:Int) != 0)=false:=by unfold bne;rw [g6c];rfl
    clear g6 g1 g2 g6e
    go_wp2_with fail
    go_ret
    exact ⟨by rw [HF.out];rfl,HB.out⟩
   case pos =>
   have ACI:q2*8≤M*8:=by omega
   have hroom:12+M*8+q2*W≤228:=by
    have h1:q2*W≤M*W:=Nat.mul_le_mul_right _ g2
    have h2:M*8+M*W≤216:=by rcases hWM with ⟨rfl,rfl⟩|⟨rfl,rfl⟩|⟨rfl,rfl⟩|⟨rfl,rfl⟩|⟨rfl,rfl⟩ <;> omega
    omega
   obtain ⟨n8,kK⟩:∃ x,q2*8=x:=⟨_,rfl⟩
   obtain ⟨m8,zA⟩:∃ x,M*8=x:=⟨_,rfl⟩
   obtain ⟨qw,hqw⟩:∃ x,q2*W=x:=⟨_,rfl⟩
   obtain ⟨a1,ha1⟩:∃ x,12+n8=x:=⟨_,rfl⟩
   obtain ⟨a2,ha2⟩:∃ x,12+m8=x:=⟨_,rfl⟩
   obtain ⟨a3,lh⟩:∃ x,a2+qw=x:=⟨_,rfl⟩
   have ew1:IntKind.i64.wrap (8*(q2:Int))=(n8:Int):=by rw [IntKind.wrap_i64];omega
   have ew2:IntKind.i64.wrap (12+(n8:Int))=(a1:Int):=by rw [IntKind.wrap_i64];omega
   have ew3:IntKind.i64.wrap (8*(M:Int))=(m8:Int):=by rw [IntKind.wrap_i64];omega
   have ew4:IntKind.i64.wrap (12+(m8:Int))=(a2:Int):=by rw [IntKind.wrap_i64];omega
   have hwq:(W:Int)*(q2:Int)=(qw:Int):=by rw [← hqw,Int.natCast_mul,Int.mul_comm]
   have ew5:IntKind.i64.wrap ((W:Int)*(q2:Int))=(qw:Int):=by rw [hwq,IntKind.wrap_i64];omega
   have ew6:IntKind.i64.wrap ((a2:Int)+(qw:Int))=(a3:Int):=by rw [IntKind.wrap_i64];omega
   have OM:Hid (F=(D9 (BN l a1 (a2-a1)) && D9 (BN l a3 (244-a3)))):=by
    show _=_
    have h12:BN l (12+q2*8) (M*8-q2*8)=BN l a1 (a2-a1):=by rw [kK,zA,ha1,show m8-n8=a2-a1 by omega]
    have h34:l.drop (12+M*8+q2*W)=BN l a3 (244-a3):=by rw [zA,hqw,ha2,lh,HDR.out a3 (by omega)]
    have hfe:=OO.out
    rw [h12,h34] at hfe
    rw [Bool.eq_iff_iff,hfe,Bool.and_eq_true]
    constructor
    · rintro ⟨_,_,_,_,_,_,_,h8,h9⟩
      exact ⟨h8,h9⟩
    · rintro ⟨h8,h9⟩
      exact ⟨yz.out,g1,g2,G3.out,G4.out,G5.out,g6.imp lZ.out.2 id,h8,h9⟩
   have HZ1:=qh (Zk.out w4 HB.out a1 (a2-a1) (by omega))
   have HZ2:=qh (Zk.out w4 HB.out a3 (244-a3) (by omega))
   have i1:(a1:Int)≤(a2:Int):=by omega
   have i2:(a2:Int)≤(c:Int):=by omega
   have i3:(a3:Int)≤244:=by omega
   have i3n:a3≤244:=by omega
   have i4:¬ c=a1:=by omega
   have i5:¬ c=a3:=by omega
   have i6:a1≤a2:=by omega
   have i7:a2≤c:=by omega
   generalize D9 (BN l a1 (a2-a1))=z1 at *
   generalize D9 (BN l a3 (244-a3))=z2 at *
   clear ACI hroom kK zA hqw ha1 ha2 lh Zk OO hwq HDR hWM Np
   have HF:Hid (F=(z1 && z2)):=OM.out
   by_cases hlt:lf=true
   · subst hlt
     clear g6 g1 g2
     cases z1
     · go_wp2_with first
         | (go_at_call 103;with_reducible refine HZ1.out.mono ?_;rintro e w4 ⟨rfl,rfl⟩)
         | (go_at_call 103;with_reducible refine HZ2.out.mono ?_;rintro e w4 ⟨rfl,rfl⟩)
       go_ret
       exact ⟨by rw [HF.out];rfl,HB.out⟩
     · go_wp2_with first
         | (go_at_call 103;with_reducible refine HZ1.out.mono ?_;rintro e w4 ⟨rfl,rfl⟩)
         | (go_at_call 103;with_reducible refine HZ2.out.mono ?_;rintro e w4 ⟨rfl,rfl⟩)
       go_ret
       exact ⟨by rw [HF.out];cases z2 <;> rfl,HB.out⟩
   · have hlf:lf=false:=by simpa using hlt
     have g6b:((q2:Int)==0)=false:=beq_false_of_ne (by rcases g6 with h|h;exact absurd h hlt;omega)
     subst hlf
     clear g6 g1 g2 hlt
     cases z1
     · go_wp2_with first
         | (go_at_call 103;with_reducible refine HZ1.out.mono ?_;rintro e w4 ⟨rfl,rfl⟩)
         | (go_at_call 103;with_reducible refine HZ2.out.mono ?_;rintro e w4 ⟨rfl,rfl⟩)
       go_ret
       exact ⟨by rw [HF.out];rfl,HB.out⟩
     · go_wp2_with first
         | (go_at_call 103;with_reducible refine HZ1.out.mono ?_;rintro e w4 ⟨rfl,rfl⟩)
         | (go_at_call 103;with_reducible refine HZ2.out.mono ?_;rintro e w4 ⟨rfl,rfl⟩)
       go_ret
       exact ⟨by rw [HF.out];cases z2 <;> rfl,HB.out⟩
 · have HF:Hid (F=false):=by
     show _=_
     rw [← Bool.not_eq_true,OO.out]
     intro h
     exact hq h.1
   have hqz:(1:Int)<(q0:Int):=by omega
   go_wp2_with fail
   go_ret
   exact ⟨by rw [HF.out];rfl,Below.refl _ _⟩
end
end Go.Proofs.YtpenklpdjpkigaaGreat
