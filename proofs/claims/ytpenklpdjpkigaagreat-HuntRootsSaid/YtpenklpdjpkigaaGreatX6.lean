/- A part of the proof: WLook. -/
import Derived.Test.YtpenklpdjpkigaaGreatY21
import Derived.Test.YtpenklpdjpkigaaGreatY6
import Derived.Test.YtpenklpdjpkigaaGreatX1
import Derived.Test.YtpenklpdjpkigaaGreatY8
import Derived.Test.YtpenklpdjpkigaaGreatY3
import Derived.Test.YtpenklpdjpkigaaGreatY1
set_option maxHeartbeats 6400000
set_option linter.unusedVariables false
set_option linter.unusedSimpArgs false
namespace Go.Proofs.YtpenklpdjpkigaaGreat
section
open Go.RowKit Go.Shelf
attribute [local go_sem] Oper.semAt_some
theorem iE {w:World} {base c e:Nat} {A:Option Addr} {l:List Int} (h:w.ownsRow base e 1 (.slice A l.length c) l.length (AB encI l)):Aa w (fun b=>(Value.slice A l.length c).ownBlock=some b) (.slice A l.length c) l:=by
 refine ⟨A,c,rfl,?_,fun hp=>?_⟩
 · rcases Nat.eq_zero_or_pos l.length with h0|hp
   · omega
   · obtain ⟨g,cap,e1,hb,hg,hcap⟩:=FV h hp
     injection e1 with e1 e2 e3
     subst e3
     exact hcap
 · obtain ⟨g,cap,e1,hb,hg,hcap⟩:=FV h hp
   injection e1 with e1 e2 e3
   subst e1 e3
   refine ⟨g,0,rfl,rfl,fun k hk=>⟨[.int .i64 (nth 0 l k)],rfl,rfl,fun j u hu=>?_⟩⟩
   rcases j with _|j
   · simp at hu
     subst hu
     have h2:=DK (enc:=encI) (d:=(0:Int)) Bh l k 0 (.int .i64 (nth 0 l k)) hk rfl
     rw [← h2,Nat.zero_add]
     exact h.cellAt _ (by omega)
   · simp at hu
def GL (w:World) (a:Nat) (bs:List UInt8) (tree:Int) (st:WS) (way:List Int) (no lo hi:Int) (e:Ending) (w':World):Prop :=
 ∃ t lf Ak nk ck Av nv cv ev,e=.returned (.tuple #[.agg #[.int .i64 t,.bool lf,.slice Ak nk ck,.slice Av nv cv],ev]) ∧
  Hid (Bf bs tree st.deep way no lo hi=0→Bp w' (C9 w.heap.size w'.heap.size) (.agg #[.int .i64 t,.bool lf,.slice Ak nk ck,.slice Av nv cv]) (nodeAt bs no)) ∧
  Hid (CJ w' (FB w' w.heap.size) ev ⟨[no],Bf bs tree st.deep way no lo hi⟩)∧Hid (Below w.heap.size (w.setCell ⟨a,3,none⟩ (.int .i64 (st.looked+1))) w')
theorem GL.bad {w:World} {a:Nat} {bs:List UInt8} {tree:Int} {st:WS} {way:List Int} {no lo hi:Int} (w1:World) (E:Int) (hE:E≠0) (h:Bf bs tree st.deep way no lo hi=E) (hB:Below w.heap.size (w.setCell ⟨a,3,none⟩ (.int .i64 (st.looked+1))) w1) (hw:w.heap.size+1<w1.heap.size)
 (t:Int) (lf:Bool) (Ak Av:Option Addr) (nk ck nv cv:Nat) (wE w9:World) (Gd:wE=w1.alloc (.cells #[.int .i64 no,.iface 88 (.int .i64 E)] 327))
 (h9:w9=((((wE.setCell ⟨w.heap.size+1,0,none⟩ (.int .i64 t)).setCell ⟨w.heap.size+1,1,none⟩ (.bool lf)).setCell ⟨w.heap.size+1,2,none⟩ (.slice Ak nk ck)).setCell ⟨w.heap.size+1,3,none⟩ (.slice Av nv cv))) :
 GL w a bs tree st way no lo hi (.returned (.tuple #[.agg #[.int .i64 t,.bool lf,.slice Ak nk ck,.slice Av nv cv],.iface 325 (.pointer (some ⟨w1.heap.size,0,none⟩))])) w9:=by
 subst h9
 have KV:Below w.heap.size (w.setCell ⟨a,3,none⟩ (.int .i64 (st.looked+1))) wE:=by rw [Gd];exact hB.alloc (by omega) _
 refine ⟨t,lf,Ak,nk,ck,Av,nv,cv,_,rfl,fun h0=>absurd (h.symm.trans h0) hE,?_,DD KV (Nat.le_succ _) (.int .i64 t) (.bool lf) (.slice Ak nk ck) (.slice Av nv cv)⟩
 show CJ _ _ _ _
 rw [h]
 have hi:=Sd w1 no E hE (fun b=>b=w1.heap.size) rfl
 rw [← Gd] at hi
 have I6:wE.heap[w1.heap.size]? = some (.cells #[.int .i64 no,.iface 88 (.int .i64 E)] 327 (0,0)):=by rw [Gd];exact heap_alloc_new w1 _
 refine hi.keep (fun b hb=>?_) (fun b o hb=>?_)
 · subst hb
   exact ⟨by omega,_,((((Below.heap_setCell _ _ _ _ (by show w1.heap.size≠w.heap.size+1;omega)).trans (Below.heap_setCell _ _ _ _ (by show w1.heap.size≠w.heap.size+1;omega))).trans (Below.heap_setCell _ _ _ _ (by show w1.heap.size≠w.heap.size+1;omega))).trans (Below.heap_setCell _ _ _ _ (by show w1.heap.size≠w.heap.size+1;omega))).trans I6⟩
 · exact DN (by omega) (.int .i64 t) (.bool lf) (.slice Ak nk ck) (.slice Av nv cv)
def NG (w3 wx:World) (g:Nat) (bs:List UInt8) (no tree:Int) (v ev:Value):Prop :=
 Bp wx (fun b=>w3.heap.size≤b∧b<wx.heap.size∧b≠g) v (if AZ bs no tree=0 then nodeAt bs no else Mr)∧CJ wx (fun b=>FB wx w3.heap.size b∧b≠g) ev ⟨[no],AZ bs no tree⟩
theorem VD {w w':World} {base b:Nat} (h:FB w base b) (hB:Below w.heap.size w w'):FB w' base b:=by
 have hl:=h.lt
 obtain ⟨h1,cs,h2⟩:=h
 exact ⟨h1,cs,(hB.block b hl).trans h2⟩
theorem NG.up {w3 wx wy:World} {g:Nat} {bs:List UInt8} {no tree:Int} {v ev:Value} (h:NG w3 wx g bs no tree v ev) (hB:Below wx.heap.size wx wy):NG w3 wy g bs no tree v ev :=
 ⟨h.1.keep (fun b hb=>⟨hb.1,Nat.lt_of_lt_of_le hb.2.1 hB.size,hb.2.2⟩) (AL hB (fun b hb=>hb.2.1)),h.2.keep (fun b hb=>⟨VD hb.1 hB,hb.2⟩) (AL hB (fun b hb=>hb.1.lt))⟩
theorem NG.of {w3 w4 wx:World} {g:Nat} {bs:List UInt8} {no tree:Int} {v ev:Value} (h1:Bp wx (C9 w4.heap.size wx.heap.size) v (if AZ bs no tree=0 then nodeAt bs no else Mr)) (h2:CJ wx (FB wx w4.heap.size) ev ⟨[no],AZ bs no tree⟩) (hs:w3.heap.size≤w4.heap.size) (hg:g<w4.heap.size∨wx.heap.size≤g):NG w3 wx g bs no tree v ev :=
 ⟨h1.keep (fun b hb=>⟨Nat.le_trans hs hb.1,hb.2,by have:=hb.1;have:=hb.2;omega⟩) CS.refl,h2.keep (fun b hb=>⟨⟨Nat.le_trans hs hb.1,hb.2⟩,by have:=hb.1;have:=hb.lt;omega⟩) CS.refl⟩
def Got (w3 wx:World) (g:Nat) (bs:List UInt8) (no tree t:Int) (lf:Bool) (kv vv ev:Value):Prop :=
 w3.heap.size≤g∧AU wx g t lf kv vv∧NG w3 wx g bs no tree (.agg #[.int .i64 t,.bool lf,kv,vv]) ev∧Below w3.heap.size w3 wx
theorem NG.put {w3 w n:World} {g:Nat} {bs:List UInt8} {no tree t:Int} {lf:Bool} {kv vv ev:Value} {t0:Int} {l0:Bool} {k0 v0:Value} (h:NG w3 w g bs no tree (.agg #[.int .i64 t,.bool lf,kv,vv]) ev) (hb:AU w g t0 l0 k0 v0) (hB:Below w3.heap.size w3 w) (hg:w3.heap.size≤g)
 (hn:((((w.setCell ⟨g,0,none⟩ (.int .i64 t)).setCell ⟨g,1,none⟩ (.bool lf)).setCell ⟨g,2,none⟩ kv).setCell ⟨g,3,none⟩ vv)=n):Got w3 n g bs no tree t lf kv vv ev:=by
 subst hn
 refine ⟨hg,hb.put t lf kv vv,⟨?_,?_⟩,DD hB hg (.int .i64 t) (.bool lf) kv vv⟩
 · exact h.1.keep (fun b hb=>⟨hb.1,by simpa [World.setCell] using hb.2.1,hb.2.2⟩) (fun b o hb=>DN (Ne.symm hb.2.2) (.int .i64 t) (.bool lf) kv vv)
 · exact h.2.keep (fun b hb=>⟨⟨hb.1.1,by obtain ⟨cs,h⟩:=hb.1.2;exact ⟨cs,((((Below.heap_setCell _ _ _ _ hb.2).trans (Below.heap_setCell _ _ _ _ hb.2)).trans (Below.heap_setCell _ _ _ _ hb.2)).trans (Below.heap_setCell _ _ _ _ hb.2)).trans h⟩⟩,hb.2⟩) (fun b o hb=>DN (Ne.symm hb.2) (.int .i64 t) (.bool lf) kv vv)
theorem GL.pass {w w3 wc w9:World} {a g:Nat} {bs:List UInt8} {tree:Int} {st:WS} {way:List Int} {no lo hi t:Int} {lf:Bool} {Ak Av:Option Addr} {nk ck nv cv:Nat} {ev:Value} (h:Bf bs tree st.deep way no lo hi=AZ bs no tree) (hB:Below w.heap.size (w.setCell ⟨a,3,none⟩ (.int .i64 (st.looked+1))) wc) (hw:w.heap.size+1<w3.heap.size)
 (hD:NG w3 wc g bs no tree (.agg #[.int .i64 t,.bool lf,.slice Ak nk ck,.slice Av nv cv]) ev)
 (h9:w9=((((wc.setCell ⟨w.heap.size+1,0,none⟩ (.int .i64 t)).setCell ⟨w.heap.size+1,1,none⟩ (.bool lf)).setCell ⟨w.heap.size+1,2,none⟩ (.slice Ak nk ck)).setCell ⟨w.heap.size+1,3,none⟩ (.slice Av nv cv))) :
 GL w a bs tree st way no lo hi (.returned (.tuple #[.agg #[.int .i64 t,.bool lf,.slice Ak nk ck,.slice Av nv cv],ev])) w9:=by
 subst h9
 refine ⟨t,lf,Ak,nk,ck,Av,nv,cv,ev,rfl,fun h0=>?_,?_,DD hB (Nat.le_succ _) (.int .i64 t) (.bool lf) (.slice Ak nk ck) (.slice Av nv cv)⟩
 · have h1:=hD.1
   rw [if_pos (h.symm.trans h0)] at h1
   exact h1.keep (fun b hb=>⟨by have:=hb.1;omega,by simpa [World.setCell] using hb.2.1⟩) (fun b o hb=>DN (by have:=hb.1;omega) (.int .i64 t) (.bool lf) (.slice Ak nk ck) (.slice Av nv cv))
 · show CJ _ _ _ _
   rw [h]
   have hne:∀ b,w3.heap.size≤b→b≠w.heap.size+1:=fun b hb=>by omega
   exact hD.2.keep (fun b hb=>⟨by have:=hb.1.1;omega,by obtain ⟨cs,h⟩:=hb.1.2;exact ⟨cs,((((Below.heap_setCell _ _ _ _ (hne b hb.1.1)).trans (Below.heap_setCell _ _ _ _ (hne b hb.1.1))).trans (Below.heap_setCell _ _ _ _ (hne b hb.1.1))).trans (Below.heap_setCell _ _ _ _ (hne b hb.1.1))).trans h⟩⟩) (fun b o hb=>DN (by have:=hb.1.1;omega) (.int .i64 t) (.bool lf) (.slice Ak nk ck) (.slice Av nv cv))
set_option maxRecDepth 100000 in
theorem iF (w:World) (base a img:Nat) (tree fuel:Int) (st:WS) (way:List Int) (Ae Ab Af Aw:Option Addr) (ce cb cf cw:Nat) (vs:List Value) (S:Nat→Prop) (bs:List UInt8) (no lo hi:Int)
 (h:Wk w base a img tree fuel st way Ae ce Ab cb Af cf Aw cw vs) (hS:∀ b,S b→b<w.heap.size∧b≠a) (hi':Cj w S img bs) (hl:bs.length≤140737488355328) (hr:Cn lo hi=true)
 (hn:way.length≤1000) (hlk:0≤st.looked∧st.looked≤1000000000) :
 Calls Tryz.prog 224 #[.pointer (some ⟨a,0,none⟩),.int .i64 no,.agg #[.int .i64 lo,.int .i64 hi]] w fun e w'=>GL w a bs tree st way no lo hi e w':=by
 have halt:=h.box.lt
 have e1:IntKind.i64.wrap (st.looked+1)=st.looked+1:=by rw [IntKind.wrap_i64];omega
 have hsz:(w.setCell ⟨a,3,none⟩ (.int .i64 (st.looked+1))).heap.size=w.heap.size:=by simp [World.setCell]
 have hWa:=h.WB 3 (.int .i64 (st.looked+1)) { st with looked:=st.looked+1 } rfl rfl rfl rfl
 have hIa:=hi'.keep (w':=w.setCell ⟨a,3,none⟩ (.int .i64 (st.looked+1))) (fun _ h=>h) (FU (fun hb=>(hS _ hb).2 rfl) _)
 have Yc:∀ b,(Value.slice Aw way.length cw).ownBlock=some b→b<(w.setCell ⟨a,3,none⟩ (.int .i64 (st.looked+1))).heap.size:=fun b hb=>by rw [hsz];exact (h.ways.lt b hb).2
 have Qq:Aa (w.setCell ⟨a,3,none⟩ (.int .i64 (st.looked+1))) (fun b=>(Value.slice Aw way.length cw).ownBlock=some b) (.slice Aw way.length cw) way:=iE hWa.ways
 obtain ⟨y0,y1,y2,y3,y4,y5,y6,y7,y8,y9⟩:=h.cells
 have z3:=h.free 3
 go_enter Tryz.func224,Tryz.ntmps224
 go_upto_region 2 with fail
 clear y0 y1 y2 y3 y4 y5 y6 y7 y8 y9 z3 e1
 rw [hsz] at Yc
 generalize Ki:w.setCell ⟨a,3,none⟩ (.int .i64 (st.looked+1))=wa at *
 have qN:=qh Ki
 clear Ki
 have hx:=AP.new wa #[.int .i64 lo,.int .i64 hi] 283
 have hr0:AU ((wa.alloc (.cells #[.int .i64 lo,.int .i64 hi] 283)).alloc (.cells #[.int .i64 0,.bool false,.slice none 0 0,.slice none 0 0] 173)) (wa.heap.size+1) 0 false (.slice none 0 0) (.slice none 0 0):=by
  have:=heap_alloc_new (wa.alloc (.cells #[.int .i64 lo,.int .i64 hi] 283)) (.cells #[.int .i64 0,.bool false,.slice none 0 0,.slice none 0 0] 173)
  rw [World.size_alloc] at this
  exact this
 have hx2:AP ((wa.alloc (.cells #[.int .i64 lo,.int .i64 hi] 283)).alloc (.cells #[.int .i64 0,.bool false,.slice none 0 0,.slice none 0 0] 173)) wa.heap.size #[.int .i64 lo,.int .i64 hi] 283:=(Below.heap_alloc _ _ _ hx.lt).trans hx
 have hB2:Below w.heap.size wa ((wa.alloc (.cells #[.int .i64 lo,.int .i64 hi] 283)).alloc (.cells #[.int .i64 0,.bool false,.slice none 0 0,.slice none 0 0] 173)):=((Below.refl _ _).alloc (by omega) _).alloc (by simp;omega) _
 have hs2:((wa.alloc (.cells #[.int .i64 lo,.int .i64 hi] 283)).alloc (.cells #[.int .i64 0,.bool false,.slice none 0 0,.slice none 0 0] 173)).heap.size=w.heap.size+2:=by simp [hsz]
 rw [hsz] at hx2 hr0
 generalize (wa.alloc (.cells #[.int .i64 lo,.int .i64 hi] 283)).alloc (.cells #[.int .i64 0,.bool false,.slice none 0 0,.slice none 0 0] 173)=w2 at *
 have hB2':Below wa.heap.size wa w2:=by rw [hsz];exact hB2
 have hW2:=hWa.below hB2'
 have hI2:=hIa.below hB2 (fun b hb=>(hS b hb).1)
 have HC:=qh (Qg w2 (fun b=>(Value.slice Aw way.length cw).ownBlock=some b) (.slice Aw way.length cw) way no (fun b hb=>by have:=Yc b hb;omega) (Qq.keep (AA _) (fun _ h=>h) (AL hB2 Yc)) (by omega))
 have e2:Bf bs tree st.deep way no lo hi=if no∈way then 11 else if 16≤way.length then 10 else if AZ bs no tree≠0 then AZ bs no tree else if (nodeAt bs no).keys.all (BP lo hi)=false then 9 else if (nodeAt bs no).leaf=true∧st.deep≠0∧st.deep≠way.length+1 then 10 else 0:=rfl
 have JZ:=qh e2
 have zb:=qh hr0
 have Kg:=qh hx2
 have HW2:=qh hW2
 have HI2:=qh hI2
 have HB2:=qh hB2
 obtain ⟨y0,y1,y2,y3,y4,y5,y6,y7,y8,y9⟩:=hW2.cells
 dsimp only at y0 y1 y2 y3 y4 y5 y6 y7 y8 y9
 have hab:a≠w.heap.size+1:=by omega
 clear e2 hWa hIa Yc Qq hx hr0 hx2 hB2' hW2 hI2 hB2 h hi'
 by_cases hm:no∈way
 · as_aux_lemma =>
   have hd:decide (no∈way)=true:=decide_eq_true hm
   rw [hd] at HC
   have HE:Hid (Bf bs tree st.deep way no lo hi=11):=by show _=_;rw [JZ.out,if_pos hm]
   clear hm hd JZ
   go_upto_region 3 with (go_at_call 237;refine HC.out.mono ?_;rintro e w3 ⟨rfl,hB3⟩)
   have hr3:=zb.out.below hB3 zb.out.lt
   have HB3:=qh (HB2.out.trans (hB3.mono (by omega)))
   have hs3:=hB3.size
   clear hB3
   have Ci:AU (w3.alloc (.cells #[.int .i64 no,.iface 88 (.int .i64 11)] 327)) (w.heap.size+1) 0 false (.slice none 0 0) (.slice none 0 0):=(Below.heap_alloc w3 _ _ hr3.lt).trans hr3
   obtain ⟨wE,Gd⟩:∃ x,w3.alloc (.cells #[.int .i64 no,.iface 88 (.int .i64 11)] 327)=x:=⟨_,rfl⟩
   rw [Gd] at Ci
   obtain ⟨f0,f1,f2,f3⟩:=Ci.free
   obtain ⟨r0,r1,r2,r3⟩:=Ci.cells
   obtain ⟨z0,z1,z2,z3⟩:=(Ci.put 0 false (.slice none 0 0) (.slice none 0 0)).cells
   have HwE:=qh Gd
   clear Ci hr3
   go_wp2_with (go_at_call 151;refine (Dn w3 no 88 (.int .i64 11)).mono ?_;rintro e w4 ⟨rfl,rfl⟩;rw [Gd])
   refine bodyPost_ret (v:=.tuple #[.agg #[.int .i64 0,.bool false,.slice none 0 0,.slice none 0 0],.iface 325 (.pointer (some ⟨w3.heap.size,0,none⟩))]) (by simp [results,Tryz.results224,go_sem,z0,z1,z2,z3]) rfl ?_
   exact GL.bad w3 11 (by decide) HE.out (by rw [qN.out];exact HB3.out) (by omega) 0 false none none 0 0 0 0 wE _ HwE.out.symm rfl
 · have hd:decide (no∈way)=false:=decide_eq_false hm
   rw [hd] at HC
   rw [if_neg hm] at JZ
   clear hm hd
   go_upto_region 4 with (go_at_call 237;refine HC.out.mono ?_;rintro e w3 ⟨rfl,hB3⟩)
   have hr3:=zb.out.below hB3 zb.out.lt
   have hx3:=Kg.out.below hB3 Kg.out.lt
   have hW3:=HW2.out.below hB3
   have hI3:=HI2.out.below hB3 (fun b hb=>by have:=(hS b hb).1;omega)
   have HB3:=qh (HB2.out.trans (hB3.mono (by omega)))
   have hs3:=hB3.size
   obtain ⟨y0,y1,y2,y3,y4,y5,y6,y7,y8,y9⟩:=hW3.cells
   dsimp only at y0 y1 y2 y3 y4 y5 y6 y7 y8 y9
   have HW3:=qh hW3
   have HI3:=qh hI3
   have LM:=qh hx3
   clear hB3 zb Kg HW2 HI2 HB2 HC hW3 hI3 hx3
   by_cases hm:16≤way.length
   · as_aux_lemma =>
     have hd:decide ((way.length:Int) ≥ 16)=true:=decide_eq_true (by omega)
     have hd2:decide ((16:Int)≤(way.length:Int))=true:=decide_eq_true (by omega)
     have HE:Hid (Bf bs tree st.deep way no lo hi=10):=by show _=_;rw [JZ.out,if_pos hm]
     clear hm JZ
     go_upto_region 5 with fail
     have Ci:AU (w3.alloc (.cells #[.int .i64 no,.iface 88 (.int .i64 10)] 327)) (w.heap.size+1) 0 false (.slice none 0 0) (.slice none 0 0):=(Below.heap_alloc w3 _ _ hr3.lt).trans hr3
     obtain ⟨wE,Gd⟩:∃ x,w3.alloc (.cells #[.int .i64 no,.iface 88 (.int .i64 10)] 327)=x:=⟨_,rfl⟩
     rw [Gd] at Ci
     obtain ⟨f0,f1,f2,f3⟩:=Ci.free
     obtain ⟨r0,r1,r2,r3⟩:=Ci.cells
     obtain ⟨z0,z1,z2,z3⟩:=(Ci.put 0 false (.slice none 0 0) (.slice none 0 0)).cells
     have HwE:=qh Gd
     clear Ci hr3
     go_wp2_with (go_at_call 151;refine (Dn w3 no 88 (.int .i64 10)).mono ?_;rintro e w4 ⟨rfl,rfl⟩;rw [Gd])
     refine bodyPost_ret (v:=.tuple #[.agg #[.int .i64 0,.bool false,.slice none 0 0,.slice none 0 0],.iface 325 (.pointer (some ⟨w3.heap.size,0,none⟩))]) (by simp [results,Tryz.results224,go_sem,z0,z1,z2,z3]) rfl ?_
     exact GL.bad w3 10 (by decide) HE.out (by rw [qN.out];exact HB3.out) (by omega) 0 false none none 0 0 0 0 wE _ HwE.out.symm rfl
   · have hd:decide ((way.length:Int) ≥ 16)=false:=decide_eq_false (by omega)
     have hd2:decide ((16:Int)≤(way.length:Int))=false:=decide_eq_false (by omega)
     rw [if_neg hm] at JZ
     clear hm
     have HR3:=qh hr3
     clear hr3
     have iG:a<w3.heap.size:=by omega
     have SY:=qh (fun (w4:World) (hB:Below w3.heap.size w3 w4)=>Kw w4 S img bs no tree (fun b hb=>by have:=(hS b hb).1;have:=hB.size;omega) (HI3.out.below hB (fun b hb=>by have:=(hS b hb).1;omega)) hl)
     go_upto_region 6 with fail
     go_cut [8,9] (fun s8 s9 wx=>∃ g t lf Ak nk ck Av nv cv ev,s8=.pointer (some ⟨g,0,none⟩)∧s9=ev∧Got w3 wx g bs no tree t lf (.slice Ak nk ck) (.slice Av nv cv) ev)
     case first =>
      clear y0 y1 y2 y3 y4 y7 y8 y9
      refine AF (T:=fun _=>false) (S:=fun w'=>Below w3.heap.size w3 w') (by kernel_rfl) (Below.refl w3.heap.size w3).drew (fun hHeld=>?_)
      obtain ⟨BM,hw0⟩:∃ x,w3.drew=x:=⟨_,rfl⟩
      rw [hw0] at hHeld ⊢
      have AJ:Below w3.heap.size w3 BM:=hHeld
      clear hHeld hw0
      refine qs 0 40 AJ ?_
      refine qs 1 41 AJ ?_
      refine qs 2 42 AJ ?_
      refine qf 3 43 rfl rfl AJ (by intro w2' hSw;have y5:=AQ hSw iG y5;go_simp;(try with_reducible rfl)) ?_
      refine qs 4 44 AJ ?_
      refine qs 5 45 AJ ?_
      refine qs 6 46 AJ ?_
      refine qs 7 47 AJ ?_
      refine qf 8 48 rfl rfl AJ (by intro w2' hSw;have y6:=AQ hSw iG y6;go_simp;(try with_reducible rfl)) ?_
      refine F3 9 13 (oi:=_) (oj:=_) (by kernel_rfl) rfl rfl (fun K hK=>?_) (fun K hK=>?_)
      · skip
        go_simp
        refine (SY.out BM AJ).mono ?_
        rintro e Bg ⟨hnr,Co⟩
        obtain ⟨t,lf,Ak,nk,ck,Av,nv,cv,ev,rfl,HN,PX⟩:=hnr.open_
        have Vy:NG w3 Bg Bg.heap.size bs no tree (.agg #[.int .i64 t,.bool lf,.slice Ak nk ck,.slice Av nv cv]) ev:=NG.of HN.out PX.out AJ.size (.inr (Nat.le_refl _))
        have AJ:=AJ.trans (Co.mono AJ.size)
        clear Co hnr HN PX
        refine hK.out _ _ (fun _=>AJ) (fun _=>?_)
        clear hK K
        (try simp only [Act.put,qS,qZ,qU])
        refine qs 10 39 AJ ?_
        refine qs 11 50 AJ ?_
        refine qs 12 51 AJ ?_
        refine qo 13 fun K hK=>?_
        go_simp
        obtain ⟨Cr,hwn⟩:∃ wx,Bg.alloc (.cells #[.int .i64 0,.bool false,.slice none 0 0,.slice none 0 0] 173)=wx:=⟨_,rfl⟩
        have Co:Below Bg.heap.size Bg Cr:=by rw [← hwn];exact (Below.refl _ _).alloc (Nat.le_refl _) _
        have b13:Cr.heap[Bg.heap.size]? = some (.cells #[.int .i64 0,.bool false,.slice none 0 0,.slice none 0 0] 173):=by rw [← hwn];exact heap_alloc_new Bg _
        have Pj:=AJ.size
        have uL:Bg.heap.size<Cr.heap.size:=by rw [← hwn];simp
        have AJ:=AJ.trans (Co.mono AJ.size)
        rw [hwn]
        have Vy:=(show NG w3 Cr (Bg.heap.size) bs no tree _ ev from Vy.up Co)
        clear hwn Co
        refine hK.out _ _ (fun _=>AJ) (fun _=>?_)
        clear hK K
        (try simp only [Act.put,qS,qZ,qU])
        refine qo 14 fun K hK=>?_
        obtain ⟨f0,f1,f2,f3⟩:=AU.free b13
        obtain ⟨z0,z1,z2,z3⟩:=AU.cells b13
        go_simp
        obtain ⟨Kh,hwn⟩:∃ x,((((Cr.setCell ⟨Bg.heap.size,0,none⟩ (.int .i64 t)).setCell ⟨Bg.heap.size,1,none⟩ (.bool lf)).setCell ⟨Bg.heap.size,2,none⟩ (.slice Ak nk ck)).setCell ⟨Bg.heap.size,3,none⟩ (.slice Av nv cv))=x:=⟨_,rfl⟩
        have hD:=Vy.put b13 AJ Pj hwn
        have AJ:=hD.2.2.2
        rw [hwn]
        clear z0 z1 z2 z3 f0 f1 f2 f3 hwn b13
        refine hK.out _ _ (fun _=>AJ) (fun _=>?_)
        clear hK K
        (try simp only [Act.put,qS,qZ,qU])
        refine qs 15 9 AJ ?_
        refine qd ?_
        go_wp2_with fail
        go_meet
        exact ⟨_,t,lf,Ak,nk,ck,Av,nv,cv,ev,rfl,rfl,hD⟩
      · skip
        go_simp
        obtain ⟨GK,hwn⟩:∃ wx,BM.alloc (.cells #[.int .i64 0,.bool false,.slice none 0 0,.slice none 0 0] 173)=wx:=⟨_,rfl⟩
        have Co:Below BM.heap.size BM GK:=by rw [← hwn];exact (Below.refl _ _).alloc (Nat.le_refl _) _
        have b13:GK.heap[BM.heap.size]? = some (.cells #[.int .i64 0,.bool false,.slice none 0 0,.slice none 0 0] 173):=by rw [← hwn];exact heap_alloc_new BM _
        have Pj:=AJ.size
        have uL:BM.heap.size<GK.heap.size:=by rw [← hwn];simp
        have AJ:=AJ.trans (Co.mono AJ.size)
        rw [hwn]
        clear hwn Co
        refine hK.out _ _ (fun _=>AJ) (fun _=>?_)
        clear hK K
        (try simp only [Act.put,qS,qZ,qU])
        refine qo 9 fun K hK=>?_
        go_simp
        refine (SY.out GK AJ).mono ?_
        rintro e Kk ⟨hnr,Co⟩
        obtain ⟨t,lf,Ak,nk,ck,Av,nv,cv,ev,rfl,HN,PX⟩:=hnr.open_
        have Vy:NG w3 Kk (BM.heap.size) bs no tree (.agg #[.int .i64 t,.bool lf,.slice Ak nk ck,.slice Av nv cv]) ev:=NG.of HN.out PX.out AJ.size (.inl (AU.lt b13))
        have b13:=AU.below b13 Co (AU.lt b13)
        have AJ:=AJ.trans (Co.mono AJ.size)
        clear Co hnr HN PX
        refine hK.out _ _ (fun _=>AJ) (fun _=>?_)
        clear hK K
        (try simp only [Act.put,qS,qZ,qU])
        refine qs 10 39 AJ ?_
        refine qs 11 50 AJ ?_
        refine qs 12 51 AJ ?_
        refine qo 14 fun K hK=>?_
        obtain ⟨f0,f1,f2,f3⟩:=AU.free b13
        obtain ⟨z0,z1,z2,z3⟩:=AU.cells b13
        go_simp
        obtain ⟨Uz,hwn⟩:∃ x,((((Kk.setCell ⟨BM.heap.size,0,none⟩ (.int .i64 t)).setCell ⟨BM.heap.size,1,none⟩ (.bool lf)).setCell ⟨BM.heap.size,2,none⟩ (.slice Ak nk ck)).setCell ⟨BM.heap.size,3,none⟩ (.slice Av nv cv))=x:=⟨_,rfl⟩
        have hD:=Vy.put b13 AJ Pj hwn
        have AJ:=hD.2.2.2
        rw [hwn]
        clear z0 z1 z2 z3 f0 f1 f2 f3 hwn b13
        refine hK.out _ _ (fun _=>AJ) (fun _=>?_)
        clear hK K
        (try simp only [Act.put,qS,qZ,qU])
        refine qs 15 9 AJ ?_
        refine qd ?_
        go_wp2_with fail
        go_meet
        exact ⟨_,t,lf,Ak,nk,ck,Av,nv,cv,ev,rfl,rfl,hD⟩
     case rest =>
      obtain ⟨g,t,lf,Ak,nk,ck,Av,nv,cv,ev,rfl,rfl,hD⟩:=hcut
      obtain ⟨hge,hgc,hng,uM⟩:=hD
      have hrc:=HR3.out.below uM HR3.out.lt
      have hxc:=LM.out.below uM LM.out.lt
      have Yd:=qh (HB3.out.trans (uM.mono (by omega)))
      have iG:a<w3.heap.size:=by omega
      have y2:=AQ uM iG y2
      have y8:=AQ uM iG y8
      have x0:=hxc.at 0 (.int .i64 lo) rfl
      have x1:=hxc.at 1 (.int .i64 hi) rfl
      have hgl:=hgc.lt
      have hsc:=uM.size
      have hbl:w.heap.size+1<wc.heap.size:=by omega
      have hgb:w.heap.size+1≠g:=by omega
      have ze:a<wc.heap.size:=by omega
      have aO:w.heap.size+1<w3.heap.size:=by omega
      have HG:=qh hgc
      have dO:=qh hrc
      have mf:=qh hng
      obtain ⟨q0,q1,q2,q3⟩:=hgc.cells
      obtain ⟨r0,r1,r2,r3⟩:=hrc.cells
      obtain ⟨f0,f1,f2,f3⟩:=hrc.free
      obtain ⟨z0,z1,z2,z3⟩:=(hrc.put t lf (.slice Ak nk ck) (.slice Av nv cv)).cells
      clear hgc hrc hng uM hxc HR3 LM HW3 HI3 HB3 SY
      by_cases hE0:AZ bs no tree≠0
      · as_aux_lemma =>
        have hE9:Hid (Bf bs tree st.deep way no lo hi=AZ bs no tree):=by show _=_;rw [JZ.out,if_pos hE0]
        obtain ⟨ty,u,rfl,_⟩:∃ ty u,u9=.iface ty u∧True:=by
         have:=mf.out.2
         unfold CJ at this
         rw [if_neg hE0] at this
         obtain ⟨ty,u,e,_⟩:=this.form
         exact ⟨ty,u,e,trivial⟩
        clear hE0
        go_wp2_with fail
        refine bodyPost_ret (v:=.tuple #[.agg #[.int .i64 t,.bool lf,.slice Ak nk ck,.slice Av nv cv],.iface ty u]) (by simp [results,Tryz.results224,go_sem,z0,z1,z2,z3]) rfl ?_
        exact GL.pass hE9.out (by rw [qN.out];exact Yd.out) aO mf.out rfl
      · have hz:AZ bs no tree=0:=Decidable.not_not.1 hE0
        have hnil:u9=.nilIface:=by
         have:=mf.out.2
         unfold CJ at this
         rw [if_pos hz] at this
         exact this
        subst hnil
        rw [if_neg (by rw [hz];simp)] at JZ
        have hnd:=mf.out.1
        rw [if_pos hz] at hnd
        obtain ⟨kv,vv,hv,hks,-⟩:=hnd
        simp at hv
        obtain ⟨-,hlf,zf,-⟩:=hv
        subst zf
        have hkr:rises (nodeAt bs no).keys=true:=(Io (Dg hz)).1
        have hkl:(nodeAt bs no).keys.length≤18:=(Hl (Dg hz)).1
        have HF:=qh (Ip hr hkr)
        have XJ:=qh (Lv wc _ lo hi (.slice Ak nk ck) (nodeAt bs no).keys (fun b hb=>hb.2.1) hks (by omega))
        have HZ:=qh hz
        clear hkr hkl hks hz hE0
        by_cases hfit:FN lo hi (nodeAt bs no).keys=0
        · rw [hfit] at XJ
          rw [if_neg (by rw [HF.out.1 hfit];simp)] at JZ
          rw [← hlf] at JZ
          clear hfit hlf HF
          go_upto_region 11 with (go_at_call 238;refine XJ.out.mono ?_;rintro e w5 ⟨rfl,BS⟩)
          have y2:=AQ BS ze y2
          have y8:=AQ BS ze y8
          have Us:=qh (HG.out.below BS HG.out.lt)
          have Qo:=qh (dO.out.below BS dO.out.lt)
          have CE:=qh (Yd.out.trans (BS.mono (by omega)))
          have Nw:=qh (mf.out.up BS)
          have AET:w.heap.size+1<w5.heap.size:=by have:=BS.size;omega
          clear BS HG dO Yd mf q0 q1 q2 q3 r0 r1 r2 r3 f0 f1 f2 f3 z0 z1 z2 z3 XJ
          obtain ⟨q0,q1,q2,q3⟩:=Us.out.cells
          have VE:=Us.out.lt
          have XK:a<w5.heap.size:=by have:=Qo.out.lt;omega
          by_cases hdp:lf=true∧st.deep≠0∧st.deep≠(way.length:Int)+1
          · have HE:Hid (Bf bs tree st.deep way no lo hi=10):=by show _=_;rw [JZ.out,if_pos hdp]
            obtain ⟨rfl,h1,h2⟩:=hdp
            have g1:(st.deep==0)=false:=by simpa using h1
            have g4:(st.deep != 0)=true:=by simpa using h1
            have g5:decide (st.deep=0)=false:=decide_eq_false h1
            have g2:(st.deep==(way.length:Int)+1)=false:=by simpa using h2
            have g6:(st.deep != (way.length:Int)+1)=true:=by simpa using h2
            have g7:decide (st.deep=(way.length:Int)+1)=false:=decide_eq_false h2
            have g3:IntKind.i64.wrap ((way.length:Int)+1)=(way.length:Int)+1:=by rw [IntKind.wrap_i64];omega
            clear h1 h2 JZ
            refine AF (T:=fun _=>false) (S:=fun w'=>Below w5.heap.size w5 w') (by kernel_rfl) (Below.refl w5.heap.size w5).drew (fun hHeld=>?_)
            obtain ⟨TH,hw0⟩:∃ x,w5.drew=x:=⟨_,rfl⟩
            rw [hw0] at hHeld ⊢
            have AJ:Below w5.heap.size w5 TH:=hHeld
            clear hHeld hw0
            refine qs 0 68 AJ ?_
            refine qf 1 69 rfl rfl AJ (by intro w2' hSw;have q1:=AQ hSw VE q1;go_simp;(try with_reducible rfl)) ?_
            refine qs 2 70 AJ ?_
            refine qs 3 71 AJ ?_
            refine qs 4 72 AJ ?_
            refine qs 5 73 AJ ?_
            refine qs 6 74 AJ ?_
            refine qf 7 75 rfl rfl AJ (by intro w2' hSw;have y2:=AQ hSw XK y2;go_simp;(try with_reducible rfl)) ?_
            refine qs 8 76 AJ ?_
            refine qs 9 77 AJ ?_
            refine qs 10 78 AJ ?_
            refine qs 11 79 AJ ?_
            refine qs 12 80 AJ ?_
            refine qs 13 81 AJ ?_
            refine qs 14 82 AJ ?_
            refine qf 15 83 rfl rfl AJ (by intro w2' hSw;have y2:=AQ hSw XK y2;go_simp;(try with_reducible rfl)) ?_
            refine qs 16 84 AJ ?_
            refine qs 17 85 AJ ?_
            refine qs 18 86 AJ ?_
            refine qf 19 87 rfl rfl AJ (by intro w2' hSw;have y8:=AQ hSw XK y8;go_simp;(try with_reducible rfl)) ?_
            refine qs 20 88 AJ ?_
            refine qs 21 89 AJ ?_
            refine qs 22 90 AJ ?_
            refine qs 23 91 AJ ?_
            refine qs 24 67 AJ ?_
            refine qd ?_
            have HG:=qh (Us.out.below AJ VE)
            have dO:=qh (Qo.out.below AJ Qo.out.lt)
            have Yd:=qh (CE.out.trans (AJ.mono (by omega)))
            have hbl:w.heap.size+1<TH.heap.size:=dO.out.lt
            clear q0 q1 q2 q3 x0 x1 y2 y8
            go_upto_region 12 with fail
            refine AF (T:=fun _=>false) (S:=fun w'=>AU w' g t true (.slice Ak nk ck) (.slice Av nv cv)) (by kernel_rfl) (HG.out) (fun hHeld=>?_)
            refine qf 0 92 rfl rfl hHeld (by intro w hSw;obtain ⟨x0,x1,x2,x3⟩:=AU.cells hSw;go_simp;(try with_reducible rfl)) ?_
            refine qs 1 93 hHeld ?_
            refine qs 2 94 hHeld ?_
            refine qo 3 fun K hK=>?_
            go_simp
            refine (Dn TH.drew no 88 (.int .i64 10)).mono ?_
            rintro e wE ⟨rfl,Gd⟩
            have KV:Below TH.heap.size TH wE:=by (rw [Gd];exact ((Below.refl _ _).drew.alloc (Nat.le_refl _) _))
            have Ci:=dO.out.below KV dO.out.lt
            obtain ⟨r0,r1,r2,r3⟩:=Ci.cells
            obtain ⟨f0,f1,f2,f3⟩:=Ci.free
            obtain ⟨z0,z1,z2,z3⟩:=(Ci.put t true (.slice Ak nk ck) (.slice Av nv cv)).cells
            have Wv:=qh Gd
            clear Gd
            have hHeld:=(show AU wE g t true (.slice Ak nk ck) (.slice Av nv cv) from HG.out.below KV HG.out.lt)
            refine hK.out _ _ (fun _=>hHeld) (fun _=>?_)
            clear hK K
            (try simp only [Act.put,qS])
            refine qo 4 fun K hK=>?_
            go_simp
            have Bi:=(show AU _ g t true (.slice Ak nk ck) (.slice Av nv cv) from AU.Zg hHeld hgb (.int .i64 t) (.bool true) (.slice Ak nk ck) (.slice Av nv cv))
            clear hHeld
            have hHeld:=Bi
            clear Bi
            refine hK.out _ _ (fun _=>hHeld) (fun _=>?_)
            clear hK K
            (try simp only [Act.put,qS])
            refine qs 5 7 hHeld ?_
            refine qd ?_
            go_wp2_with fail
            refine bodyPost_ret (v:=.tuple #[.agg #[.int .i64 t,.bool true,.slice Ak nk ck,.slice Av nv cv],.iface 325 (.pointer (some ⟨TH.heap.size,0,none⟩))]) (by simp [results,Tryz.results224,go_sem,z0,z1,z2,z3]) rfl ?_
            exact GL.bad TH.drew 10 (by decide) HE.out (by rw [qN.out];exact Yd.out.drew) hbl t true Ak Av nk ck nv cv wE _ Wv.out rfl
          · have qJ:Hid (Bf bs tree st.deep way no lo hi=AZ bs no tree):=by show _=_;rw [JZ.out,if_neg hdp,HZ.out]
            clear JZ
            cases lf with
            | false =>
             clear hdp
             refine AF (T:=fun _=>false) (S:=fun w'=>Below w5.heap.size w5 w') (by kernel_rfl) (Below.refl w5.heap.size w5).drew (fun hHeld=>?_)
             obtain ⟨MI,hw0⟩:∃ x,w5.drew=x:=⟨_,rfl⟩
             rw [hw0] at hHeld ⊢
             have AJ:Below w5.heap.size w5 MI:=hHeld
             clear hHeld hw0
             refine qs 0 68 AJ ?_
             refine qf 1 69 rfl rfl AJ (by intro w2' hSw;have q1:=AQ hSw VE q1;go_simp;(try with_reducible rfl)) ?_
             refine qs 2 70 AJ ?_
             refine AY 3 71 (oi:=_) rfl rfl (by kernel_rfl) (by kernel_rfl) (by kernel_rfl) (by kernel_rfl) (fun _ _ _ h=>h) (by rfl) AJ ?_
             (try simp only [Act.put,qS,qZ,qU])
             refine AY 4 72 (oi:=_) rfl rfl (by kernel_rfl) (by kernel_rfl) (by kernel_rfl) (by kernel_rfl) (fun _ _ _ h=>h) (by rfl) AJ ?_
             (try simp only [Act.put,qS,qZ,qU])
             refine AY 5 73 (oi:=_) rfl rfl (by kernel_rfl) (by kernel_rfl) (by kernel_rfl) (by kernel_rfl) (fun _ _ _ h=>h) (by rfl) AJ ?_
             (try simp only [Act.put,qS,qZ,qU])
             refine AY 6 74 (oi:=_) rfl rfl (by kernel_rfl) (by kernel_rfl) (by kernel_rfl) (by kernel_rfl) (fun _ _ _ h=>h) (by rfl) AJ ?_
             (try simp only [Act.put,qS,qZ,qU])
             refine AY 7 75 (oi:=_) rfl rfl (by kernel_rfl) (by kernel_rfl) (by kernel_rfl) (by kernel_rfl) (fun _ _ _ h=>h) (by rfl) AJ ?_
             (try simp only [Act.put,qS,qZ,qU])
             refine AY 8 76 (oi:=_) rfl rfl (by kernel_rfl) (by kernel_rfl) (by kernel_rfl) (by kernel_rfl) (fun _ _ _ h=>h) (by rfl) AJ ?_
             (try simp only [Act.put,qS,qZ,qU])
             refine qs 9 77 AJ ?_
             refine qs 10 78 AJ ?_
             refine AY 11 79 (oi:=_) rfl rfl (by kernel_rfl) (by kernel_rfl) (by kernel_rfl) (by kernel_rfl) (fun _ _ _ h=>h) (by rfl) AJ ?_
             (try simp only [Act.put,qS,qZ,qU])
             refine AY 12 80 (oi:=_) rfl rfl (by kernel_rfl) (by kernel_rfl) (by kernel_rfl) (by kernel_rfl) (fun _ _ _ h=>h) (by rfl) AJ ?_
             (try simp only [Act.put,qS,qZ,qU])
             refine AY 13 81 (oi:=_) rfl rfl (by kernel_rfl) (by kernel_rfl) (by kernel_rfl) (by kernel_rfl) (fun _ _ _ h=>h) (by rfl) AJ ?_
             (try simp only [Act.put,qS,qZ,qU])
             refine AY 14 82 (oi:=_) rfl rfl (by kernel_rfl) (by kernel_rfl) (by kernel_rfl) (by kernel_rfl) (fun _ _ _ h=>h) (by rfl) AJ ?_
             (try simp only [Act.put,qS,qZ,qU])
             refine AY 15 83 (oi:=_) rfl rfl (by kernel_rfl) (by kernel_rfl) (by kernel_rfl) (by kernel_rfl) (fun _ _ _ h=>h) (by rfl) AJ ?_
             (try simp only [Act.put,qS,qZ,qU])
             refine AY 16 84 (oi:=_) rfl rfl (by kernel_rfl) (by kernel_rfl) (by kernel_rfl) (by kernel_rfl) (fun _ _ _ h=>h) (by rfl) AJ ?_
             (try simp only [Act.put,qS,qZ,qU])
             refine AY 17 85 (oi:=_) rfl rfl (by kernel_rfl) (by kernel_rfl) (by kernel_rfl) (by kernel_rfl) (fun _ _ _ h=>h) (by rfl) AJ ?_
             (try simp only [Act.put,qS,qZ,qU])
             refine AY 18 86 (oi:=_) rfl rfl (by kernel_rfl) (by kernel_rfl) (by kernel_rfl) (by kernel_rfl) (fun _ _ _ h=>h) (by rfl) AJ ?_
             (try simp only [Act.put,qS,qZ,qU])
             refine AY 19 87 (oi:=_) rfl rfl (by kernel_rfl) (by kernel_rfl) (by kernel_rfl) (by kernel_rfl) (fun _ _ _ h=>h) (by rfl) AJ ?_
             (try simp only [Act.put,qS,qZ,qU])
             refine AY 20 88 (oi:=_) rfl rfl (by kernel_rfl) (by kernel_rfl) (by kernel_rfl) (by kernel_rfl) (fun _ _ _ h=>h) (by rfl) AJ ?_
             (try simp only [Act.put,qS,qZ,qU])
             refine AY 21 89 (oi:=_) rfl rfl (by kernel_rfl) (by kernel_rfl) (by kernel_rfl) (by kernel_rfl) (fun _ _ _ h=>h) (by rfl) AJ ?_
             (try simp only [Act.put,qS,qZ,qU])
             refine AY 22 90 (oi:=_) rfl rfl (by kernel_rfl) (by kernel_rfl) (by kernel_rfl) (by kernel_rfl) (fun _ _ _ h=>h) (by rfl) AJ ?_
             (try simp only [Act.put,qS,qZ,qU])
             refine qs 23 91 AJ ?_
             refine qs 24 67 AJ ?_
             refine qd ?_
             have Ra:=Qo.out.below AJ Qo.out.lt
             have Yd:=qh (CE.out.trans (AJ.mono (by omega)))
             obtain ⟨q0,q1,q2,q3⟩:=(Us.out.below AJ VE).cells
             obtain ⟨r0,r1,r2,r3⟩:=Ra.cells
             obtain ⟨f0,f1,f2,f3⟩:=Ra.free
             obtain ⟨z0,z1,z2,z3⟩:=(Ra.put t false (.slice Ak nk ck) (.slice Av nv cv)).cells
             clear Ra
             go_wp2_with fail
             refine bodyPost_ret (v:=.tuple #[.agg #[.int .i64 t,.bool false,.slice Ak nk ck,.slice Av nv cv],.nilIface]) (by simp [results,Tryz.results224,go_sem,z0,z1,z2,z3]) rfl ?_
             exact GL.pass qJ.out (by rw [qN.out];exact Yd.out) aO (Nw.out.up AJ) rfl
            | true =>
             by_cases h1:st.deep=0
             · have g1:(st.deep==0)=true:=by simpa using h1
               have g4:(st.deep != 0)=false:=by simpa using h1
               have g5:decide (st.deep=0)=true:=decide_eq_true h1
               clear h1 hdp
               refine AF (T:=fun _=>false) (S:=fun w'=>Below w5.heap.size w5 w') (by kernel_rfl) (Below.refl w5.heap.size w5).drew (fun hHeld=>?_)
               obtain ⟨iH,hw0⟩:∃ x,w5.drew=x:=⟨_,rfl⟩
               rw [hw0] at hHeld ⊢
               have AJ:Below w5.heap.size w5 iH:=hHeld
               clear hHeld hw0
               refine qs 0 68 AJ ?_
               refine qf 1 69 rfl rfl AJ (by intro w2' hSw;have q1:=AQ hSw VE q1;go_simp;(try with_reducible rfl)) ?_
               refine qs 2 70 AJ ?_
               refine qs 3 71 AJ ?_
               refine qs 4 72 AJ ?_
               refine qs 5 73 AJ ?_
               refine qs 6 74 AJ ?_
               refine qf 7 75 rfl rfl AJ (by intro w2' hSw;have y2:=AQ hSw XK y2;go_simp;(try with_reducible rfl)) ?_
               refine qs 8 76 AJ ?_
               refine qs 9 77 AJ ?_
               refine qs 10 78 AJ ?_
               refine AY 11 79 (oi:=_) rfl rfl (by kernel_rfl) (by kernel_rfl) (by kernel_rfl) (by kernel_rfl) (fun _ _ _ h=>h) (by rfl) AJ ?_
               (try simp only [Act.put,qS,qZ,qU])
               refine AY 12 80 (oi:=_) rfl rfl (by kernel_rfl) (by kernel_rfl) (by kernel_rfl) (by kernel_rfl) (fun _ _ _ h=>h) (by rfl) AJ ?_
               (try simp only [Act.put,qS,qZ,qU])
               refine AY 13 81 (oi:=_) rfl rfl (by kernel_rfl) (by kernel_rfl) (by kernel_rfl) (by kernel_rfl) (fun _ _ _ h=>h) (by rfl) AJ ?_
               (try simp only [Act.put,qS,qZ,qU])
               refine AY 14 82 (oi:=_) rfl rfl (by kernel_rfl) (by kernel_rfl) (by kernel_rfl) (by kernel_rfl) (fun _ _ _ h=>h) (by rfl) AJ ?_
               (try simp only [Act.put,qS,qZ,qU])
               refine AY 15 83 (oi:=_) rfl rfl (by kernel_rfl) (by kernel_rfl) (by kernel_rfl) (by kernel_rfl) (fun _ _ _ h=>h) (by rfl) AJ ?_
               (try simp only [Act.put,qS,qZ,qU])
               refine AY 16 84 (oi:=_) rfl rfl (by kernel_rfl) (by kernel_rfl) (by kernel_rfl) (by kernel_rfl) (fun _ _ _ h=>h) (by rfl) AJ ?_
               (try simp only [Act.put,qS,qZ,qU])
               refine AY 17 85 (oi:=_) rfl rfl (by kernel_rfl) (by kernel_rfl) (by kernel_rfl) (by kernel_rfl) (fun _ _ _ h=>h) (by rfl) AJ ?_
               (try simp only [Act.put,qS,qZ,qU])
               refine AY 18 86 (oi:=_) rfl rfl (by kernel_rfl) (by kernel_rfl) (by kernel_rfl) (by kernel_rfl) (fun _ _ _ h=>h) (by rfl) AJ ?_
               (try simp only [Act.put,qS,qZ,qU])
               refine AY 19 87 (oi:=_) rfl rfl (by kernel_rfl) (by kernel_rfl) (by kernel_rfl) (by kernel_rfl) (fun _ _ _ h=>h) (by rfl) AJ ?_
               (try simp only [Act.put,qS,qZ,qU])
               refine AY 20 88 (oi:=_) rfl rfl (by kernel_rfl) (by kernel_rfl) (by kernel_rfl) (by kernel_rfl) (fun _ _ _ h=>h) (by rfl) AJ ?_
               (try simp only [Act.put,qS,qZ,qU])
               refine AY 21 89 (oi:=_) rfl rfl (by kernel_rfl) (by kernel_rfl) (by kernel_rfl) (by kernel_rfl) (fun _ _ _ h=>h) (by rfl) AJ ?_
               (try simp only [Act.put,qS,qZ,qU])
               refine AY 22 90 (oi:=_) rfl rfl (by kernel_rfl) (by kernel_rfl) (by kernel_rfl) (by kernel_rfl) (fun _ _ _ h=>h) (by rfl) AJ ?_
               (try simp only [Act.put,qS,qZ,qU])
               refine qs 23 91 AJ ?_
               refine qs 24 67 AJ ?_
               refine qd ?_
               have Ra:=Qo.out.below AJ Qo.out.lt
               have Yd:=qh (CE.out.trans (AJ.mono (by omega)))
               obtain ⟨q0,q1,q2,q3⟩:=(Us.out.below AJ VE).cells
               obtain ⟨r0,r1,r2,r3⟩:=Ra.cells
               obtain ⟨f0,f1,f2,f3⟩:=Ra.free
               obtain ⟨z0,z1,z2,z3⟩:=(Ra.put t true (.slice Ak nk ck) (.slice Av nv cv)).cells
               clear Ra
               go_wp2_with fail
               refine bodyPost_ret (v:=.tuple #[.agg #[.int .i64 t,.bool true,.slice Ak nk ck,.slice Av nv cv],.nilIface]) (by simp [results,Tryz.results224,go_sem,z0,z1,z2,z3]) rfl ?_
               exact GL.pass qJ.out (by rw [qN.out];exact Yd.out) aO (Nw.out.up AJ) rfl
             · have h2:st.deep=(way.length:Int)+1:=Decidable.not_not.1 (fun h=>hdp ⟨rfl,h1,h⟩)
               have g1:(st.deep==0)=false:=by simpa using h1
               have g4:(st.deep != 0)=true:=by simpa using h1
               have g5:decide (st.deep=0)=false:=decide_eq_false h1
               have g2:(st.deep==(way.length:Int)+1)=true:=by simpa using h2
               have g6:(st.deep != (way.length:Int)+1)=false:=by simpa using h2
               have g7:decide (st.deep=(way.length:Int)+1)=true:=decide_eq_true h2
               have g3:IntKind.i64.wrap ((way.length:Int)+1)=(way.length:Int)+1:=by rw [IntKind.wrap_i64];omega
               clear h1 h2 hdp
               refine AF (T:=fun _=>false) (S:=fun w'=>Below w5.heap.size w5 w') (by kernel_rfl) (Below.refl w5.heap.size w5).drew (fun hHeld=>?_)
               obtain ⟨uN,hw0⟩:∃ x,w5.drew=x:=⟨_,rfl⟩
               rw [hw0] at hHeld ⊢
               have AJ:Below w5.heap.size w5 uN:=hHeld
               clear hHeld hw0
               refine qs 0 68 AJ ?_
               refine qf 1 69 rfl rfl AJ (by intro w2' hSw;have q1:=AQ hSw VE q1;go_simp;(try with_reducible rfl)) ?_
               refine qs 2 70 AJ ?_
               refine qs 3 71 AJ ?_
               refine qs 4 72 AJ ?_
               refine qs 5 73 AJ ?_
               refine qs 6 74 AJ ?_
               refine qf 7 75 rfl rfl AJ (by intro w2' hSw;have y2:=AQ hSw XK y2;go_simp;(try with_reducible rfl)) ?_
               refine qs 8 76 AJ ?_
               refine qs 9 77 AJ ?_
               refine qs 10 78 AJ ?_
               refine qs 11 79 AJ ?_
               refine qs 12 80 AJ ?_
               refine qs 13 81 AJ ?_
               refine qs 14 82 AJ ?_
               refine qf 15 83 rfl rfl AJ (by intro w2' hSw;have y2:=AQ hSw XK y2;go_simp;(try with_reducible rfl)) ?_
               refine qs 16 84 AJ ?_
               refine qs 17 85 AJ ?_
               refine qs 18 86 AJ ?_
               refine qf 19 87 rfl rfl AJ (by intro w2' hSw;have y8:=AQ hSw XK y8;go_simp;(try with_reducible rfl)) ?_
               refine qs 20 88 AJ ?_
               refine qs 21 89 AJ ?_
               refine qs 22 90 AJ ?_
               refine qs 23 91 AJ ?_
               refine qs 24 67 AJ ?_
               refine qd ?_
               have Ra:=Qo.out.below AJ Qo.out.lt
               have Yd:=qh (CE.out.trans (AJ.mono (by omega)))
               obtain ⟨q0,q1,q2,q3⟩:=(Us.out.below AJ VE).cells
               obtain ⟨r0,r1,r2,r3⟩:=Ra.cells
               obtain ⟨f0,f1,f2,f3⟩:=Ra.free
               obtain ⟨z0,z1,z2,z3⟩:=(Ra.put t true (.slice Ak nk ck) (.slice Av nv cv)).cells
               clear Ra
               go_wp2_with fail
               refine bodyPost_ret (v:=.tuple #[.agg #[.int .i64 t,.bool true,.slice Ak nk ck,.slice Av nv cv],.nilIface]) (by simp [results,Tryz.results224,go_sem,z0,z1,z2,z3]) rfl ?_
               exact GL.pass qJ.out (by rw [qN.out];exact Yd.out) aO (Nw.out.up AJ) rfl
        · generalize hf:FN lo hi (nodeAt bs no).keys=f at *
          have hne:(f==0)=false:=by simpa using hfit
          have hall:(nodeAt bs no).keys.all (BP lo hi)=false:=by
           cases e:(nodeAt bs no).keys.all (BP lo hi) with
           | false=>rfl
           | true=>exact absurd (HF.out.2 e) hfit
          have HE:Hid (Bf bs tree st.deep way no lo hi=9):=by show _=_;rw [JZ.out,if_pos hall]
          clear hf hfit hall JZ HF hlf
          go_upto_region 10 with (go_at_call 238;refine XJ.out.mono ?_;rintro e w5 ⟨rfl,BS⟩)
          have HG:=qh (HG.out.below BS HG.out.lt)
          have dO:=qh (dO.out.below BS dO.out.lt)
          have Yd:=qh (Yd.out.trans (BS.mono (by omega)))
          have hbl:w.heap.size+1<w5.heap.size:=by have:=BS.size;omega
          clear BS q0 q1 q2 q3 r0 r1 r2 r3 f0 f1 f2 f3 z0 z1 z2 z3 XJ x0 x1 y2 y8
          refine AF (T:=fun _=>false) (S:=fun w'=>AU w' g t lf (.slice Ak nk ck) (.slice Av nv cv)) (by kernel_rfl) (HG.out) (fun hHeld=>?_)
          refine qf 0 63 rfl rfl hHeld (by intro w hSw;obtain ⟨x0,x1,x2,x3⟩:=AU.cells hSw;go_simp;(try with_reducible rfl)) ?_
          refine qs 1 64 hHeld ?_
          refine qs 2 65 hHeld ?_
          refine qo 3 fun K hK=>?_
          go_simp
          refine (Dn w5.drew no 88 (.int .i64 9)).mono ?_
          rintro e wE ⟨rfl,Gd⟩
          have KV:Below w5.heap.size w5 wE:=by (rw [Gd];exact ((Below.refl _ _).drew.alloc (Nat.le_refl _) _))
          have Ci:=dO.out.below KV dO.out.lt
          obtain ⟨r0,r1,r2,r3⟩:=Ci.cells
          obtain ⟨f0,f1,f2,f3⟩:=Ci.free
          obtain ⟨z0,z1,z2,z3⟩:=(Ci.put t lf (.slice Ak nk ck) (.slice Av nv cv)).cells
          have Wv:=qh Gd
          clear Gd
          have hHeld:=(show AU wE g t lf (.slice Ak nk ck) (.slice Av nv cv) from HG.out.below KV HG.out.lt)
          refine hK.out _ _ (fun _=>hHeld) (fun _=>?_)
          clear hK K
          (try simp only [Act.put,qS])
          refine qo 4 fun K hK=>?_
          go_simp
          have Bi:=(show AU _ g t lf (.slice Ak nk ck) (.slice Av nv cv) from AU.Zg hHeld hgb (.int .i64 t) (.bool lf) (.slice Ak nk ck) (.slice Av nv cv))
          clear hHeld
          have hHeld:=Bi
          clear Bi
          refine hK.out _ _ (fun _=>hHeld) (fun _=>?_)
          clear hK K
          (try simp only [Act.put,qS])
          refine qs 5 7 hHeld ?_
          refine qd ?_
          go_wp2_with fail
          refine bodyPost_ret (v:=.tuple #[.agg #[.int .i64 t,.bool lf,.slice Ak nk ck,.slice Av nv cv],.iface 325 (.pointer (some ⟨w5.heap.size,0,none⟩))]) (by simp [results,Tryz.results224,go_sem,z0,z1,z2,z3]) rfl ?_
          exact GL.bad w5.drew 9 (by decide) HE.out (by rw [qN.out];exact Yd.out.drew) hbl t lf Ak Av nk ck nv cv wE _ Wv.out rfl
end
end Go.Proofs.YtpenklpdjpkigaaGreat
