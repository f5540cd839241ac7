/- A part of the proof: WLook. -/
import Derived.Test.YthblbddmcdnllaaGreatDoorX26
import Derived.Test.YthblbddmcdnllaaGreatDoorX12
import Derived.Test.YthblbddmcdnllaaGreatDoorX20
import Derived.Test.YthblbddmcdnllaaGreatDoorX13
import Derived.Test.YthblbddmcdnllaaGreatDoorX7
import Derived.Test.YthblbddmcdnllaaGreatDoorX19
import Derived.Test.YthblbddmcdnllaaGreatDoorY1
set_option maxHeartbeats 6400000
set_option linter.unusedVariables false
set_option linter.unusedSimpArgs false
namespace Go.Proofs.YthblbddmcdnllaaGreatDoor
section
open Go.RowKit Go.Shelf
attribute [local go_sem] Oper.semAt_some
theorem Wy {w:World} {base c e:Nat} {A:Option Addr} {l:List Int} (h:w.ownsRow base e 1 (.slice A l.length c) l.length (AA encI l)):BV w (fun b=>(Value.slice A l.length c).ownBlock=some b) (.slice A l.length c) l:=by
 refine ⟨A,c,rfl,?_,fun hp=>?_⟩
 · rcases Nat.eq_zero_or_pos l.length with h0|hp
   · omega
   · obtain ⟨g,cap,e1,hb,hg,hcap⟩:=Eg h hp
     injection e1 with e1 e2 e3
     subst e3
     exact hcap
 · obtain ⟨g,cap,e1,hb,hg,hcap⟩:=Eg h hp
   injection e1 with e1 e2 e3
   subst e1 e3
   refine ⟨g,0,rfl,rfl,fun k hk=>⟨[.int .i64 (nth 0 l k)],rfl,rfl,fun j u hu=>?_⟩⟩
   rcases j with _|j
   · simp at hu
     subst hu
     have h2:=Dc (enc:=encI) (d:=(0:Int)) Bu l k 0 (.int .i64 (nth 0 l k)) hk rfl
     rw [← h2,Nat.zero_add]
     exact h.cellAt _ (by omega)
   · simp at hu
def EZ (w:World) (a:Nat) (bs:List UInt8) (tree:Int) (st:WS) (way:List Int) (no lo hi:Int) (e:Ending) (w':World):Prop :=
 ∃ t lf Ak nk ck Av nv cv ev,e=.returned (.tuple #[.agg #[.int .i64 t,.bool lf,.slice Ak nk ck,.slice Av nv cv],ev]) ∧
  Hid (Di bs tree st.deep way no lo hi=0→CW w' (Fu w.heap.size w'.heap.size) (.agg #[.int .i64 t,.bool lf,.slice Ak nk ck,.slice Av nv cv]) (nodeAt bs no)) ∧
  Hid (Bf w' (FB w' w.heap.size) ev ⟨[no],Di bs tree st.deep way no lo hi⟩)∧Hid (Below w.heap.size (w.setCell ⟨a,3,none⟩ (.int .i64 (st.looked+1))) w')
theorem EZ.bad {w:World} {a:Nat} {bs:List UInt8} {tree:Int} {st:WS} {way:List Int} {no lo hi:Int} (w1:World) (E:Int) (hE:E≠0) (h:Di bs tree st.deep way no lo hi=E) (hB:Below w.heap.size (w.setCell ⟨a,3,none⟩ (.int .i64 (st.looked+1))) w1) (hw:w.heap.size+1<w1.heap.size)
 (t:Int) (lf:Bool) (Ak Av:Option Addr) (nk ck nv cv:Nat) (wE w9:World) (Eo:wE=w1.alloc (.cells #[.int .i64 no,.iface 44 (.int .i64 E)] 186))
 (h9:w9=((((wE.setCell ⟨w.heap.size+1,0,none⟩ (.int .i64 t)).setCell ⟨w.heap.size+1,1,none⟩ (.bool lf)).setCell ⟨w.heap.size+1,2,none⟩ (.slice Ak nk ck)).setCell ⟨w.heap.size+1,3,none⟩ (.slice Av nv cv))) :
 EZ w a bs tree st way no lo hi (.returned (.tuple #[.agg #[.int .i64 t,.bool lf,.slice Ak nk ck,.slice Av nv cv],.iface 184 (.pointer (some ⟨w1.heap.size,0,none⟩))])) w9:=by
 subst h9
 have IP:Below w.heap.size (w.setCell ⟨a,3,none⟩ (.int .i64 (st.looked+1))) wE:=by rw [Eo];exact hB.alloc (by omega) _
 refine ⟨t,lf,Ak,nk,ck,Av,nv,cv,_,rfl,fun h0=>absurd (h.symm.trans h0) hE,?_,C8 IP (Nat.le_succ _) (.int .i64 t) (.bool lf) (.slice Ak nk ck) (.slice Av nv cv)⟩
 show Bf _ _ _ _
 rw [h]
 have hi:=Nu w1 no E hE (fun b=>b=w1.heap.size) rfl
 rw [← Eo] at hi
 have Ey:wE.heap[w1.heap.size]? = some (.cells #[.int .i64 no,.iface 44 (.int .i64 E)] 186 (0,0)):=by rw [Eo];exact heap_alloc_new w1 _
 refine hi.keep (fun b hb=>?_) (fun b o hb=>?_)
 · subst hb
   exact ⟨by omega,_,((((Below.heap_setCell _ _ _ _ (by show w1.heap.size≠w.heap.size+1;omega)).trans (Below.heap_setCell _ _ _ _ (by show w1.heap.size≠w.heap.size+1;omega))).trans (Below.heap_setCell _ _ _ _ (by show w1.heap.size≠w.heap.size+1;omega))).trans (Below.heap_setCell _ _ _ _ (by show w1.heap.size≠w.heap.size+1;omega))).trans Ey⟩
 · exact CZ (by omega) (.int .i64 t) (.bool lf) (.slice Ak nk ck) (.slice Av nv cv)
def NG (w3 wx:World) (g:Nat) (bs:List UInt8) (no tree:Int) (v ev:Value):Prop :=
 CW wx (fun b=>w3.heap.size≤b∧b<wx.heap.size∧b≠g) v (if Al bs no tree=0 then nodeAt bs no else Pi)∧Bf wx (fun b=>FB wx w3.heap.size b∧b≠g) ev ⟨[no],Al bs no tree⟩
theorem QC {w w':World} {base b:Nat} (h:FB w base b) (hB:Below w.heap.size w w'):FB w' base b:=by
 have hl:=h.lt
 obtain ⟨h1,cs,h2⟩:=h
 exact ⟨h1,cs,(hB.block b hl).trans h2⟩
theorem NG.up {w3 wx wy:World} {g:Nat} {bs:List UInt8} {no tree:Int} {v ev:Value} (h:NG w3 wx g bs no tree v ev) (hB:Below wx.heap.size wx wy):NG w3 wy g bs no tree v ev :=
 ⟨h.1.keep (fun b hb=>⟨hb.1,Nat.lt_of_lt_of_le hb.2.1 hB.size,hb.2.2⟩) (AR hB (fun b hb=>hb.2.1)),h.2.keep (fun b hb=>⟨QC hb.1 hB,hb.2⟩) (AR hB (fun b hb=>hb.1.lt))⟩
theorem NG.of {w3 w4 wx:World} {g:Nat} {bs:List UInt8} {no tree:Int} {v ev:Value} (h1:CW wx (Fu w4.heap.size wx.heap.size) v (if Al bs no tree=0 then nodeAt bs no else Pi)) (h2:Bf wx (FB wx w4.heap.size) ev ⟨[no],Al bs no tree⟩) (hs:w3.heap.size≤w4.heap.size) (hg:g<w4.heap.size∨wx.heap.size≤g):NG w3 wx g bs no tree v ev :=
 ⟨h1.keep (fun b hb=>⟨Nat.le_trans hs hb.1,hb.2,by have:=hb.1;have:=hb.2;omega⟩) CU.refl,h2.keep (fun b hb=>⟨⟨Nat.le_trans hs hb.1,hb.2⟩,by have:=hb.1;have:=hb.lt;omega⟩) CU.refl⟩
def xG (w3 wx:World) (g:Nat) (bs:List UInt8) (no tree t:Int) (lf:Bool) (kv vv ev:Value):Prop :=
 w3.heap.size≤g∧AP wx g t lf kv vv∧NG w3 wx g bs no tree (.agg #[.int .i64 t,.bool lf,kv,vv]) ev∧Below w3.heap.size w3 wx
theorem NG.put {w3 w n:World} {g:Nat} {bs:List UInt8} {no tree t:Int} {lf:Bool} {kv vv ev:Value} {t0:Int} {l0:Bool} {k0 v0:Value} (h:NG w3 w g bs no tree (.agg #[.int .i64 t,.bool lf,kv,vv]) ev) (hb:AP w g t0 l0 k0 v0) (hB:Below w3.heap.size w3 w) (hg:w3.heap.size≤g)
 (hn:((((w.setCell ⟨g,0,none⟩ (.int .i64 t)).setCell ⟨g,1,none⟩ (.bool lf)).setCell ⟨g,2,none⟩ kv).setCell ⟨g,3,none⟩ vv)=n):xG w3 n g bs no tree t lf kv vv ev:=by
 subst hn
 refine ⟨hg,hb.put t lf kv vv,⟨?_,?_⟩,C8 hB hg (.int .i64 t) (.bool lf) kv vv⟩
 · exact h.1.keep (fun b hb=>⟨hb.1,by simpa [World.setCell] using hb.2.1,hb.2.2⟩) (fun b o hb=>CZ (Ne.symm hb.2.2) (.int .i64 t) (.bool lf) kv vv)
 · exact h.2.keep (fun b hb=>⟨⟨hb.1.1,by obtain ⟨cs,h⟩:=hb.1.2;exact ⟨cs,((((Below.heap_setCell _ _ _ _ hb.2).trans (Below.heap_setCell _ _ _ _ hb.2)).trans (Below.heap_setCell _ _ _ _ hb.2)).trans (Below.heap_setCell _ _ _ _ hb.2)).trans h⟩⟩,hb.2⟩) (fun b o hb=>CZ (Ne.symm hb.2) (.int .i64 t) (.bool lf) kv vv)
theorem EZ.pass {w w3 wc w9:World} {a g:Nat} {bs:List UInt8} {tree:Int} {st:WS} {way:List Int} {no lo hi t:Int} {lf:Bool} {Ak Av:Option Addr} {nk ck nv cv:Nat} {ev:Value} (h:Di bs tree st.deep way no lo hi=Al bs no tree) (hB:Below w.heap.size (w.setCell ⟨a,3,none⟩ (.int .i64 (st.looked+1))) wc) (hw:w.heap.size+1<w3.heap.size)
 (hD:NG w3 wc g bs no tree (.agg #[.int .i64 t,.bool lf,.slice Ak nk ck,.slice Av nv cv]) ev)
 (h9:w9=((((wc.setCell ⟨w.heap.size+1,0,none⟩ (.int .i64 t)).setCell ⟨w.heap.size+1,1,none⟩ (.bool lf)).setCell ⟨w.heap.size+1,2,none⟩ (.slice Ak nk ck)).setCell ⟨w.heap.size+1,3,none⟩ (.slice Av nv cv))) :
 EZ w a bs tree st way no lo hi (.returned (.tuple #[.agg #[.int .i64 t,.bool lf,.slice Ak nk ck,.slice Av nv cv],ev])) w9:=by
 subst h9
 refine ⟨t,lf,Ak,nk,ck,Av,nv,cv,ev,rfl,fun h0=>?_,?_,C8 hB (Nat.le_succ _) (.int .i64 t) (.bool lf) (.slice Ak nk ck) (.slice Av nv cv)⟩
 · have h1:=hD.1
   rw [if_pos (h.symm.trans h0)] at h1
   exact h1.keep (fun b hb=>⟨by have:=hb.1;omega,by simpa [World.setCell] using hb.2.1⟩) (fun b o hb=>CZ (by have:=hb.1;omega) (.int .i64 t) (.bool lf) (.slice Ak nk ck) (.slice Av nv cv))
 · show Bf _ _ _ _
   rw [h]
   have hne:∀ b,w3.heap.size≤b→b≠w.heap.size+1:=fun b hb=>by omega
   exact hD.2.keep (fun b hb=>⟨by have:=hb.1.1;omega,by obtain ⟨cs,h⟩:=hb.1.2;exact ⟨cs,((((Below.heap_setCell _ _ _ _ (hne b hb.1.1)).trans (Below.heap_setCell _ _ _ _ (hne b hb.1.1))).trans (Below.heap_setCell _ _ _ _ (hne b hb.1.1))).trans (Below.heap_setCell _ _ _ _ (hne b hb.1.1))).trans h⟩⟩) (fun b o hb=>CZ (by have:=hb.1.1;omega) (.int .i64 t) (.bool lf) (.slice Ak nk ck) (.slice Av nv cv))
set_option maxRecDepth 100000 in
theorem Wz (w:World) (base a img:Nat) (tree fuel:Int) (st:WS) (way:List Int) (Ae Ab Af Aw:Option Addr) (ce cb cf cw:Nat) (vs:List Value) (S:Nat→Prop) (bs:List UInt8) (no lo hi:Int)
 (h:Wk w base a img tree fuel st way Ae ce Ab cb Af cf Aw cw vs) (hS:∀ b,S b→b<w.heap.size∧b≠a) (hi':Am w S img bs) (hl:bs.length≤140737488355328) (hr:DN lo hi=true)
 (hn:way.length≤1000) (hlk:0≤st.looked∧st.looked≤1000000000) :
 Calls Tryz.prog 218 #[.pointer (some ⟨a,0,none⟩),.int .i64 no,.agg #[.int .i64 lo,.int .i64 hi]] w fun e w'=>EZ w a bs tree st way no lo hi e w':=by
 have halt:=h.box.lt
 have e1:IntKind.i64.wrap (st.looked+1)=st.looked+1:=by rw [IntKind.wrap_i64];omega
 have hsz:(w.setCell ⟨a,3,none⟩ (.int .i64 (st.looked+1))).heap.size=w.heap.size:=by simp [World.setCell]
 have hWa:=h.YL 3 (.int .i64 (st.looked+1)) { st with looked:=st.looked+1 } rfl rfl rfl rfl
 have xH:=hi'.keep (w':=w.setCell ⟨a,3,none⟩ (.int .i64 (st.looked+1))) (fun _ h=>h) (EC (fun hb=>(hS _ hb).2 rfl) _)
 have TU:∀ b,(Value.slice Aw way.length cw).ownBlock=some b→b<(w.setCell ⟨a,3,none⟩ (.int .i64 (st.looked+1))).heap.size:=fun b hb=>by rw [hsz];exact (h.ways.lt b hb).2
 have jo:BV (w.setCell ⟨a,3,none⟩ (.int .i64 (st.looked+1))) (fun b=>(Value.slice Aw way.length cw).ownBlock=some b) (.slice Aw way.length cw) way:=Wy hWa.ways
 obtain ⟨y0,y1,y2,y3,y4,y5,y6,y7,y8,y9⟩:=h.cells
 have z3:=h.free 3
 go_enter Tryz.func218,Tryz.ntmps218
 go_upto_region 2 with fail
 clear y0 y1 y2 y3 y4 y5 y6 y7 y8 y9 z3 e1
 rw [hsz] at TU
 generalize Ij:w.setCell ⟨a,3,none⟩ (.int .i64 (st.looked+1))=wa at *
 have aJ:=qh Ij
 clear Ij
 have hx:=AL.new wa #[.int .i64 lo,.int .i64 hi] 332
 have hr0:AP ((wa.alloc (.cells #[.int .i64 lo,.int .i64 hi] 332)).alloc (.cells #[.int .i64 0,.bool false,.slice none 0 0,.slice none 0 0] 125)) (wa.heap.size+1) 0 false (.slice none 0 0) (.slice none 0 0):=by
  have:=heap_alloc_new (wa.alloc (.cells #[.int .i64 lo,.int .i64 hi] 332)) (.cells #[.int .i64 0,.bool false,.slice none 0 0,.slice none 0 0] 125)
  rw [World.size_alloc] at this
  exact this
 have hx2:AL ((wa.alloc (.cells #[.int .i64 lo,.int .i64 hi] 332)).alloc (.cells #[.int .i64 0,.bool false,.slice none 0 0,.slice none 0 0] 125)) wa.heap.size #[.int .i64 lo,.int .i64 hi] 332:=(Below.heap_alloc _ _ _ hx.lt).trans hx
 have hB2:Below w.heap.size wa ((wa.alloc (.cells #[.int .i64 lo,.int .i64 hi] 332)).alloc (.cells #[.int .i64 0,.bool false,.slice none 0 0,.slice none 0 0] 125)):=((Below.refl _ _).alloc (by omega) _).alloc (by simp;omega) _
 have hs2:((wa.alloc (.cells #[.int .i64 lo,.int .i64 hi] 332)).alloc (.cells #[.int .i64 0,.bool false,.slice none 0 0,.slice none 0 0] 125)).heap.size=w.heap.size+2:=by simp [hsz]
 rw [hsz] at hx2 hr0
 generalize (wa.alloc (.cells #[.int .i64 lo,.int .i64 hi] 332)).alloc (.cells #[.int .i64 0,.bool false,.slice none 0 0,.slice none 0 0] 125)=w2 at *
 have hB2':Below wa.heap.size wa w2:=by rw [hsz];exact hB2
 have hW2:=hWa.below hB2'
 have hI2:=xH.below hB2 (fun b hb=>(hS b hb).1)
 have HC:=qh (MZ w2 (fun b=>(Value.slice Aw way.length cw).ownBlock=some b) (.slice Aw way.length cw) way no (fun b hb=>by have:=TU b hb;omega) (jo.keep (AB _) (fun _ h=>h) (AR hB2 TU)) (by omega))
 have e2:Di bs tree st.deep way no lo hi=if no∈way then 11 else if 16≤way.length then 10 else if Al bs no tree≠0 then Al bs no tree else if (nodeAt bs no).keys.all (Bg lo hi)=false then 9 else if (nodeAt bs no).leaf=true∧st.deep≠0∧st.deep≠way.length+1 then 10 else 0:=rfl
 have IJ:=qh e2
 have jq:=qh hr0
 have YV:=qh hx2
 have HW2:=qh hW2
 have HI2:=qh hI2
 have HB2:=qh hB2
 obtain ⟨y0,y1,y2,y3,y4,y5,y6,y7,y8,y9⟩:=hW2.cells
 dsimp only at y0 y1 y2 y3 y4 y5 y6 y7 y8 y9
 have hab:a≠w.heap.size+1:=by omega
 clear e2 hWa xH TU jo hx hr0 hx2 hB2' hW2 hI2 hB2 h hi'
 by_cases hm:no∈way
 · as_aux_lemma =>
   have hd:decide (no∈way)=true:=decide_eq_true hm
   rw [hd] at HC
   have HE:Hid (Di bs tree st.deep way no lo hi=11):=by show _=_;rw [IJ.out,if_pos hm]
   clear hm hd IJ
   go_upto_region 3 with (go_at_call 229;refine HC.out.mono ?_;rintro e w3 ⟨rfl,hB3⟩)
   have hr3:=jq.out.below hB3 jq.out.lt
   have HB3:=qh (HB2.out.trans (hB3.mono (by omega)))
   have hs3:=hB3.size
   clear hB3
   have Bt:AP (w3.alloc (.cells #[.int .i64 no,.iface 44 (.int .i64 11)] 186)) (w.heap.size+1) 0 false (.slice none 0 0) (.slice none 0 0):=(Below.heap_alloc w3 _ _ hr3.lt).trans hr3
   obtain ⟨wE,Eo⟩:∃ x,w3.alloc (.cells #[.int .i64 no,.iface 44 (.int .i64 11)] 186)=x:=⟨_,rfl⟩
   rw [Eo] at Bt
   obtain ⟨f0,f1,f2,f3⟩:=Bt.free
   obtain ⟨r0,r1,r2,r3⟩:=Bt.cells
   obtain ⟨z0,z1,z2,z3⟩:=(Bt.put 0 false (.slice none 0 0) (.slice none 0 0)).cells
   have ry:=qh Eo
   clear Bt hr3
   go_wp2_with (go_at_call 43;refine (Cc w3 no 44 (.int .i64 11)).mono ?_;rintro e w4 ⟨rfl,rfl⟩;rw [Eo])
   refine bodyPost_ret (v:=.tuple #[.agg #[.int .i64 0,.bool false,.slice none 0 0,.slice none 0 0],.iface 184 (.pointer (some ⟨w3.heap.size,0,none⟩))]) (by simp [results,Tryz.results218,go_sem,z0,z1,z2,z3]) rfl ?_
   exact EZ.bad w3 11 (by decide) HE.out (by rw [aJ.out];exact HB3.out) (by omega) 0 false none none 0 0 0 0 wE _ ry.out.symm rfl
 · have hd:decide (no∈way)=false:=decide_eq_false hm
   rw [hd] at HC
   rw [if_neg hm] at IJ
   clear hm hd
   go_upto_region 4 with (go_at_call 229;refine HC.out.mono ?_;rintro e w3 ⟨rfl,hB3⟩)
   have hr3:=jq.out.below hB3 jq.out.lt
   have hx3:=YV.out.below hB3 YV.out.lt
   have hW3:=HW2.out.below hB3
   have xI:=HI2.out.below hB3 (fun b hb=>by have:=(hS b hb).1;omega)
   have HB3:=qh (HB2.out.trans (hB3.mono (by omega)))
   have hs3:=hB3.size
   obtain ⟨y0,y1,y2,y3,y4,y5,y6,y7,y8,y9⟩:=hW3.cells
   dsimp only at y0 y1 y2 y3 y4 y5 y6 y7 y8 y9
   have HW3:=qh hW3
   have HI3:=qh xI
   have Ve:=qh hx3
   clear hB3 jq YV HW2 HI2 HB2 HC hW3 xI hx3
   by_cases hm:16≤way.length
   · as_aux_lemma =>
     have hd:decide ((way.length:Int) ≥ 16)=true:=decide_eq_true (by omega)
     have hd2:decide ((16:Int)≤(way.length:Int))=true:=decide_eq_true (by omega)
     have HE:Hid (Di bs tree st.deep way no lo hi=10):=by show _=_;rw [IJ.out,if_pos hm]
     clear hm IJ
     go_upto_region 5 with fail
     have Bt:AP (w3.alloc (.cells #[.int .i64 no,.iface 44 (.int .i64 10)] 186)) (w.heap.size+1) 0 false (.slice none 0 0) (.slice none 0 0):=(Below.heap_alloc w3 _ _ hr3.lt).trans hr3
     obtain ⟨wE,Eo⟩:∃ x,w3.alloc (.cells #[.int .i64 no,.iface 44 (.int .i64 10)] 186)=x:=⟨_,rfl⟩
     rw [Eo] at Bt
     obtain ⟨f0,f1,f2,f3⟩:=Bt.free
     obtain ⟨r0,r1,r2,r3⟩:=Bt.cells
     obtain ⟨z0,z1,z2,z3⟩:=(Bt.put 0 false (.slice none 0 0) (.slice none 0 0)).cells
     have ry:=qh Eo
     clear Bt hr3
     go_wp2_with (go_at_call 43;refine (Cc w3 no 44 (.int .i64 10)).mono ?_;rintro e w4 ⟨rfl,rfl⟩;rw [Eo])
     refine bodyPost_ret (v:=.tuple #[.agg #[.int .i64 0,.bool false,.slice none 0 0,.slice none 0 0],.iface 184 (.pointer (some ⟨w3.heap.size,0,none⟩))]) (by simp [results,Tryz.results218,go_sem,z0,z1,z2,z3]) rfl ?_
     exact EZ.bad w3 10 (by decide) HE.out (by rw [aJ.out];exact HB3.out) (by omega) 0 false none none 0 0 0 0 wE _ ry.out.symm rfl
   · have hd:decide ((way.length:Int) ≥ 16)=false:=decide_eq_false (by omega)
     have hd2:decide ((16:Int)≤(way.length:Int))=false:=decide_eq_false (by omega)
     rw [if_neg hm] at IJ
     clear hm
     have HR3:=qh hr3
     clear hr3
     have W9:a<w3.heap.size:=by omega
     have rz:=qh (fun (w4:World) (hB:Below w3.heap.size w3 w4)=>Fj w4 S img bs no tree (fun b hb=>by have:=(hS b hb).1;have:=hB.size;omega) (HI3.out.below hB (fun b hb=>by have:=(hS b hb).1;omega)) hl)
     go_upto_region 6 with fail
     go_cut [8,9] (fun s8 s9 wx=>∃ g t lf Ak nk ck Av nv cv ev,s8=.pointer (some ⟨g,0,none⟩)∧s9=ev∧xG w3 wx g bs no tree t lf (.slice Ak nk ck) (.slice Av nv cv) ev)
     case first =>
      clear y0 y1 y2 y3 y4 y7 y8 y9
      refine AJ (T:=fun _=>false) (S:=fun w'=>Below w3.heap.size w3 w') (by kernel_rfl) (Below.refl w3.heap.size w3).drew (fun hHeld=>?_)
      obtain ⟨BN,hw0⟩:∃ x,w3.drew=x:=⟨_,rfl⟩
      rw [hw0] at hHeld ⊢
      have AF:Below w3.heap.size w3 BN:=hHeld
      clear hHeld hw0
      refine qs 0 40 AF ?_
      refine qs 1 41 AF ?_
      refine qs 2 42 AF ?_
      refine qf 3 43 rfl rfl AF (by intro w2' hSw;have y5:=AY hSw W9 y5;go_simp;(try with_reducible rfl)) ?_
      refine qs 4 44 AF ?_
      refine qs 5 45 AF ?_
      refine qs 6 46 AF ?_
      refine qs 7 47 AF ?_
      refine qf 8 48 rfl rfl AF (by intro w2' hSw;have y6:=AY hSw W9 y6;go_simp;(try with_reducible rfl)) ?_
      refine FH 9 13 (oi:=_) (oj:=_) (by kernel_rfl) rfl rfl (fun K hK=>?_) (fun K hK=>?_)
      · skip
        go_simp
        refine (rz.out BN AF).mono ?_
        rintro e BP ⟨hnr,CB⟩
        obtain ⟨t,lf,Ak,nk,ck,Av,nv,cv,ev,rfl,HN,P5⟩:=hnr.open_
        have aK:NG w3 BP BP.heap.size bs no tree (.agg #[.int .i64 t,.bool lf,.slice Ak nk ck,.slice Av nv cv]) ev:=NG.of HN.out P5.out AF.size (.inr (Nat.le_refl _))
        have AF:=AF.trans (CB.mono AF.size)
        clear CB hnr HN P5
        refine hK.out _ _ (fun _=>AF) (fun _=>?_)
        clear hK K
        (try simp only [Act.put,qS,qZ,qU])
        refine qs 10 39 AF ?_
        refine qs 11 50 AF ?_
        refine qs 12 51 AF ?_
        refine qo 13 fun K hK=>?_
        go_simp
        obtain ⟨Cz,hwn⟩:∃ wx,BP.alloc (.cells #[.int .i64 0,.bool false,.slice none 0 0,.slice none 0 0] 125)=wx:=⟨_,rfl⟩
        have CB:Below BP.heap.size BP Cz:=by rw [← hwn];exact (Below.refl _ _).alloc (Nat.le_refl _) _
        have b13:Cz.heap[BP.heap.size]? = some (.cells #[.int .i64 0,.bool false,.slice none 0 0,.slice none 0 0] 125):=by rw [← hwn];exact heap_alloc_new BP _
        have XA:=AF.size
        have sD:BP.heap.size<Cz.heap.size:=by rw [← hwn];simp
        have AF:=AF.trans (CB.mono AF.size)
        rw [hwn]
        have aK:=(show NG w3 Cz (BP.heap.size) bs no tree _ ev from aK.up CB)
        clear hwn CB
        refine hK.out _ _ (fun _=>AF) (fun _=>?_)
        clear hK K
        (try simp only [Act.put,qS,qZ,qU])
        refine qo 14 fun K hK=>?_
        obtain ⟨f0,f1,f2,f3⟩:=AP.free b13
        obtain ⟨z0,z1,z2,z3⟩:=AP.cells b13
        go_simp
        obtain ⟨Ka,hwn⟩:∃ x,((((Cz.setCell ⟨BP.heap.size,0,none⟩ (.int .i64 t)).setCell ⟨BP.heap.size,1,none⟩ (.bool lf)).setCell ⟨BP.heap.size,2,none⟩ (.slice Ak nk ck)).setCell ⟨BP.heap.size,3,none⟩ (.slice Av nv cv))=x:=⟨_,rfl⟩
        have hD:=aK.put b13 AF XA hwn
        have AF:=hD.2.2.2
        rw [hwn]
        clear z0 z1 z2 z3 f0 f1 f2 f3 hwn b13
        refine hK.out _ _ (fun _=>AF) (fun _=>?_)
        clear hK K
        (try simp only [Act.put,qS,qZ,qU])
        refine qs 15 9 AF ?_
        refine qd ?_
        go_wp2_with fail
        go_meet
        exact ⟨_,t,lf,Ak,nk,ck,Av,nv,cv,ev,rfl,rfl,hD⟩
      · skip
        go_simp
        obtain ⟨Ev,hwn⟩:∃ wx,BN.alloc (.cells #[.int .i64 0,.bool false,.slice none 0 0,.slice none 0 0] 125)=wx:=⟨_,rfl⟩
        have CB:Below BN.heap.size BN Ev:=by rw [← hwn];exact (Below.refl _ _).alloc (Nat.le_refl _) _
        have b13:Ev.heap[BN.heap.size]? = some (.cells #[.int .i64 0,.bool false,.slice none 0 0,.slice none 0 0] 125):=by rw [← hwn];exact heap_alloc_new BN _
        have XA:=AF.size
        have sD:BN.heap.size<Ev.heap.size:=by rw [← hwn];simp
        have AF:=AF.trans (CB.mono AF.size)
        rw [hwn]
        clear hwn CB
        refine hK.out _ _ (fun _=>AF) (fun _=>?_)
        clear hK K
        (try simp only [Act.put,qS,qZ,qU])
        refine qo 9 fun K hK=>?_
        go_simp
        refine (rz.out Ev AF).mono ?_
        rintro e Kc ⟨hnr,CB⟩
        obtain ⟨t,lf,Ak,nk,ck,Av,nv,cv,ev,rfl,HN,P5⟩:=hnr.open_
        have aK:NG w3 Kc (BN.heap.size) bs no tree (.agg #[.int .i64 t,.bool lf,.slice Ak nk ck,.slice Av nv cv]) ev:=NG.of HN.out P5.out AF.size (.inl (AP.lt b13))
        have b13:=AP.below b13 CB (AP.lt b13)
        have AF:=AF.trans (CB.mono AF.size)
        clear CB hnr HN P5
        refine hK.out _ _ (fun _=>AF) (fun _=>?_)
        clear hK K
        (try simp only [Act.put,qS,qZ,qU])
        refine qs 10 39 AF ?_
        refine qs 11 50 AF ?_
        refine qs 12 51 AF ?_
        refine qo 14 fun K hK=>?_
        obtain ⟨f0,f1,f2,f3⟩:=AP.free b13
        obtain ⟨z0,z1,z2,z3⟩:=AP.cells b13
        go_simp
        obtain ⟨RX,hwn⟩:∃ x,((((Kc.setCell ⟨BN.heap.size,0,none⟩ (.int .i64 t)).setCell ⟨BN.heap.size,1,none⟩ (.bool lf)).setCell ⟨BN.heap.size,2,none⟩ (.slice Ak nk ck)).setCell ⟨BN.heap.size,3,none⟩ (.slice Av nv cv))=x:=⟨_,rfl⟩
        have hD:=aK.put b13 AF XA hwn
        have AF:=hD.2.2.2
        rw [hwn]
        clear z0 z1 z2 z3 f0 f1 f2 f3 hwn b13
        refine hK.out _ _ (fun _=>AF) (fun _=>?_)
        clear hK K
        (try simp only [Act.put,qS,qZ,qU])
        refine qs 15 9 AF ?_
        refine qd ?_
        go_wp2_with fail
        go_meet
        exact ⟨_,t,lf,Ak,nk,ck,Av,nv,cv,ev,rfl,rfl,hD⟩
     case rest =>
      obtain ⟨g,t,lf,Ak,nk,ck,Av,nv,cv,ev,rfl,rfl,hD⟩:=hcut
      obtain ⟨hge,hgc,xJ,dQ⟩:=hD
      have hrc:=HR3.out.below dQ HR3.out.lt
      have sF:=Ve.out.below dQ Ve.out.lt
      have TV:=qh (HB3.out.trans (dQ.mono (by omega)))
      have W9:a<w3.heap.size:=by omega
      have y2:=AY dQ W9 y2
      have y8:=AY dQ W9 y8
      have x0:=sF.at 0 (.int .i64 lo) rfl
      have x1:=sF.at 1 (.int .i64 hi) rfl
      have hgl:=hgc.lt
      have hsc:=dQ.size
      have hbl:w.heap.size+1<wc.heap.size:=by omega
      have hgb:w.heap.size+1≠g:=by omega
      have jr:a<wc.heap.size:=by omega
      have Ur:w.heap.size+1<w3.heap.size:=by omega
      have HG:=qh hgc
      have Vf:=qh hrc
      have Yz:=qh xJ
      obtain ⟨q0,q1,q2,q3⟩:=hgc.cells
      obtain ⟨r0,r1,r2,r3⟩:=hrc.cells
      obtain ⟨f0,f1,f2,f3⟩:=hrc.free
      obtain ⟨z0,z1,z2,z3⟩:=(hrc.put t lf (.slice Ak nk ck) (.slice Av nv cv)).cells
      clear hgc hrc xJ dQ sF HR3 Ve HW3 HI3 HB3 rz
      by_cases hE0:Al bs no tree≠0
      · as_aux_lemma =>
        have hE9:Hid (Di bs tree st.deep way no lo hi=Al bs no tree):=by show _=_;rw [IJ.out,if_pos hE0]
        obtain ⟨ty,u,rfl,_⟩:∃ ty u,u9=.iface ty u∧True:=by
         have:=Yz.out.2
         unfold Bf at this
         rw [if_neg hE0] at this
         obtain ⟨ty,u,e,_⟩:=this.form
         exact ⟨ty,u,e,trivial⟩
        clear hE0
        go_wp2_with fail
        refine bodyPost_ret (v:=.tuple #[.agg #[.int .i64 t,.bool lf,.slice Ak nk ck,.slice Av nv cv],.iface ty u]) (by simp [results,Tryz.results218,go_sem,z0,z1,z2,z3]) rfl ?_
        exact EZ.pass hE9.out (by rw [aJ.out];exact TV.out) Ur Yz.out rfl
      · have hz:Al bs no tree=0:=Decidable.not_not.1 hE0
        have hnil:u9=.nilIface:=by
         have:=Yz.out.2
         unfold Bf at this
         rw [if_pos hz] at this
         exact this
        subst hnil
        rw [if_neg (by rw [hz];simp)] at IJ
        have hnd:=Yz.out.1
        rw [if_pos hz] at hnd
        obtain ⟨kv,vv,hv,hks,-⟩:=hnd
        simp at hv
        obtain ⟨-,hlf,sG,-⟩:=hv
        subst sG
        have hkr:rises (nodeAt bs no).keys=true:=(M5 (F3 hz)).1
        have hkl:(nodeAt bs no).keys.length≤18:=(LH (F3 hz)).1
        have HF:=qh (J3 hr hkr)
        have jv:=qh (JS wc _ lo hi (.slice Ak nk ck) (nodeAt bs no).keys (fun b hb=>hb.2.1) hks (by omega))
        have HZ:=qh hz
        clear hkr hkl hks hz hE0
        by_cases hfit:Eh lo hi (nodeAt bs no).keys=0
        · rw [hfit] at jv
          rw [if_neg (by rw [HF.out.1 hfit];simp)] at IJ
          rw [← hlf] at IJ
          clear hfit hlf HF
          go_upto_region 11 with (go_at_call 230;refine jv.out.mono ?_;rintro e w5 ⟨rfl,BX⟩)
          have y2:=AY BX jr y2
          have y8:=AY BX jr y8
          have XB:=qh (HG.out.below BX HG.out.lt)
          have RQ:=qh (Vf.out.below BX Vf.out.lt)
          have DT:=qh (TV.out.trans (BX.mono (by omega)))
          have QD:=qh (Yz.out.up BX)
          have AAF:w.heap.size+1<w5.heap.size:=by have:=BX.size;omega
          clear BX HG Vf TV Yz q0 q1 q2 q3 r0 r1 r2 r3 f0 f1 f2 f3 z0 z1 z2 z3 jv
          obtain ⟨q0,q1,q2,q3⟩:=XB.out.cells
          have QE:=XB.out.lt
          have R3:a<w5.heap.size:=by have:=RQ.out.lt;omega
          by_cases hdp:lf=true∧st.deep≠0∧st.deep≠(way.length:Int)+1
          · have HE:Hid (Di bs tree st.deep way no lo hi=10):=by show _=_;rw [IJ.out,if_pos hdp]
            obtain ⟨rfl,h1,h2⟩:=hdp
            have g1:(st.deep==0)=false:=by simpa using h1
            have g4:(st.deep != 0)=true:=by simpa using h1
            have g5:decide (st.deep=0)=false:=decide_eq_false h1
            have g2:(st.deep==(way.length:Int)+1)=false:=by simpa using h2
            have g6:(st.deep != (way.length:Int)+1)=true:=by simpa using h2
            have g7:decide (st.deep=(way.length:Int)+1)=false:=decide_eq_false h2
            have g3:IntKind.i64.wrap ((way.length:Int)+1)=(way.length:Int)+1:=by rw [IntKind.wrap_i64];omega
            clear h1 h2 IJ
            refine AJ (T:=fun _=>false) (S:=fun w'=>Below w5.heap.size w5 w') (by kernel_rfl) (Below.refl w5.heap.size w5).drew (fun hHeld=>?_)
            obtain ⟨Fq,hw0⟩:∃ x,w5.drew=x:=⟨_,rfl⟩
            rw [hw0] at hHeld ⊢
            have AF:Below w5.heap.size w5 Fq:=hHeld
            clear hHeld hw0
            refine qs 0 68 AF ?_
            refine qf 1 69 rfl rfl AF (by intro w2' hSw;have q1:=AY hSw QE q1;go_simp;(try with_reducible rfl)) ?_
            refine qs 2 70 AF ?_
            refine qs 3 71 AF ?_
            refine qs 4 72 AF ?_
            refine qs 5 73 AF ?_
            refine qs 6 74 AF ?_
            refine qf 7 75 rfl rfl AF (by intro w2' hSw;have y2:=AY hSw R3 y2;go_simp;(try with_reducible rfl)) ?_
            refine qs 8 76 AF ?_
            refine qs 9 77 AF ?_
            refine qs 10 78 AF ?_
            refine qs 11 79 AF ?_
            refine qs 12 80 AF ?_
            refine qs 13 81 AF ?_
            refine qs 14 82 AF ?_
            refine qf 15 83 rfl rfl AF (by intro w2' hSw;have y2:=AY hSw R3 y2;go_simp;(try with_reducible rfl)) ?_
            refine qs 16 84 AF ?_
            refine qs 17 85 AF ?_
            refine qs 18 86 AF ?_
            refine qf 19 87 rfl rfl AF (by intro w2' hSw;have y8:=AY hSw R3 y8;go_simp;(try with_reducible rfl)) ?_
            refine qs 20 88 AF ?_
            refine qs 21 89 AF ?_
            refine qs 22 90 AF ?_
            refine qs 23 91 AF ?_
            refine qs 24 67 AF ?_
            refine qd ?_
            have HG:=qh (XB.out.below AF QE)
            have Vf:=qh (RQ.out.below AF RQ.out.lt)
            have TV:=qh (DT.out.trans (AF.mono (by omega)))
            have hbl:w.heap.size+1<Fq.heap.size:=Vf.out.lt
            clear q0 q1 q2 q3 x0 x1 y2 y8
            go_upto_region 12 with fail
            refine AJ (T:=fun _=>false) (S:=fun w'=>AP w' g t true (.slice Ak nk ck) (.slice Av nv cv)) (by kernel_rfl) (HG.out) (fun hHeld=>?_)
            refine qf 0 92 rfl rfl hHeld (by intro w hSw;obtain ⟨x0,x1,x2,x3⟩:=AP.cells hSw;go_simp;(try with_reducible rfl)) ?_
            refine qs 1 93 hHeld ?_
            refine qs 2 94 hHeld ?_
            refine qo 3 fun K hK=>?_
            go_simp
            refine (Cc Fq.drew no 44 (.int .i64 10)).mono ?_
            rintro e wE ⟨rfl,Eo⟩
            have IP:Below Fq.heap.size Fq wE:=by (rw [Eo];exact ((Below.refl _ _).drew.alloc (Nat.le_refl _) _))
            have Bt:=Vf.out.below IP Vf.out.lt
            obtain ⟨r0,r1,r2,r3⟩:=Bt.cells
            obtain ⟨f0,f1,f2,f3⟩:=Bt.free
            obtain ⟨z0,z1,z2,z3⟩:=(Bt.put t true (.slice Ak nk ck) (.slice Av nv cv)).cells
            have Rf:=qh Eo
            clear Eo
            have hHeld:=(show AP wE g t true (.slice Ak nk ck) (.slice Av nv cv) from HG.out.below IP HG.out.lt)
            refine hK.out _ _ (fun _=>hHeld) (fun _=>?_)
            clear hK K
            (try simp only [Act.put,qS])
            refine qo 4 fun K hK=>?_
            go_simp
            have BI:=(show AP _ g t true (.slice Ak nk ck) (.slice Av nv cv) from AP.UR hHeld hgb (.int .i64 t) (.bool true) (.slice Ak nk ck) (.slice Av nv cv))
            clear hHeld
            have hHeld:=BI
            clear BI
            refine hK.out _ _ (fun _=>hHeld) (fun _=>?_)
            clear hK K
            (try simp only [Act.put,qS])
            refine qs 5 7 hHeld ?_
            refine qd ?_
            go_wp2_with fail
            refine bodyPost_ret (v:=.tuple #[.agg #[.int .i64 t,.bool true,.slice Ak nk ck,.slice Av nv cv],.iface 184 (.pointer (some ⟨Fq.heap.size,0,none⟩))]) (by simp [results,Tryz.results218,go_sem,z0,z1,z2,z3]) rfl ?_
            exact EZ.bad Fq.drew 10 (by decide) HE.out (by rw [aJ.out];exact TV.out.drew) hbl t true Ak Av nk ck nv cv wE _ Rf.out rfl
          · have sH:Hid (Di bs tree st.deep way no lo hi=Al bs no tree):=by show _=_;rw [IJ.out,if_neg hdp,HZ.out]
            clear IJ
            cases lf with
            | false =>
             clear hdp
             refine AJ (T:=fun _=>false) (S:=fun w'=>Below w5.heap.size w5 w') (by kernel_rfl) (Below.refl w5.heap.size w5).drew (fun hHeld=>?_)
             obtain ⟨J7,hw0⟩:∃ x,w5.drew=x:=⟨_,rfl⟩
             rw [hw0] at hHeld ⊢
             have AF:Below w5.heap.size w5 J7:=hHeld
             clear hHeld hw0
             refine qs 0 68 AF ?_
             refine qf 1 69 rfl rfl AF (by intro w2' hSw;have q1:=AY hSw QE q1;go_simp;(try with_reducible rfl)) ?_
             refine qs 2 70 AF ?_
             refine AQ 3 71 (oi:=_) rfl rfl (by kernel_rfl) (by kernel_rfl) (by kernel_rfl) (by kernel_rfl) (fun _ _ _ h=>h) (by rfl) AF ?_
             (try simp only [Act.put,qS,qZ,qU])
             refine AQ 4 72 (oi:=_) rfl rfl (by kernel_rfl) (by kernel_rfl) (by kernel_rfl) (by kernel_rfl) (fun _ _ _ h=>h) (by rfl) AF ?_
             (try simp only [Act.put,qS,qZ,qU])
             refine AQ 5 73 (oi:=_) rfl rfl (by kernel_rfl) (by kernel_rfl) (by kernel_rfl) (by kernel_rfl) (fun _ _ _ h=>h) (by rfl) AF ?_
             (try simp only [Act.put,qS,qZ,qU])
             refine AQ 6 74 (oi:=_) rfl rfl (by kernel_rfl) (by kernel_rfl) (by kernel_rfl) (by kernel_rfl) (fun _ _ _ h=>h) (by rfl) AF ?_
             (try simp only [Act.put,qS,qZ,qU])
             refine AQ 7 75 (oi:=_) rfl rfl (by kernel_rfl) (by kernel_rfl) (by kernel_rfl) (by kernel_rfl) (fun _ _ _ h=>h) (by rfl) AF ?_
             (try simp only [Act.put,qS,qZ,qU])
             refine AQ 8 76 (oi:=_) rfl rfl (by kernel_rfl) (by kernel_rfl) (by kernel_rfl) (by kernel_rfl) (fun _ _ _ h=>h) (by rfl) AF ?_
             (try simp only [Act.put,qS,qZ,qU])
             refine qs 9 77 AF ?_
             refine qs 10 78 AF ?_
             refine AQ 11 79 (oi:=_) rfl rfl (by kernel_rfl) (by kernel_rfl) (by kernel_rfl) (by kernel_rfl) (fun _ _ _ h=>h) (by rfl) AF ?_
             (try simp only [Act.put,qS,qZ,qU])
             refine AQ 12 80 (oi:=_) rfl rfl (by kernel_rfl) (by kernel_rfl) (by kernel_rfl) (by kernel_rfl) (fun _ _ _ h=>h) (by rfl) AF ?_
             (try simp only [Act.put,qS,qZ,qU])
             refine AQ 13 81 (oi:=_) rfl rfl (by kernel_rfl) (by kernel_rfl) (by kernel_rfl) (by kernel_rfl) (fun _ _ _ h=>h) (by rfl) AF ?_
             (try simp only [Act.put,qS,qZ,qU])
             refine AQ 14 82 (oi:=_) rfl rfl (by kernel_rfl) (by kernel_rfl) (by kernel_rfl) (by kernel_rfl) (fun _ _ _ h=>h) (by rfl) AF ?_
             (try simp only [Act.put,qS,qZ,qU])
             refine AQ 15 83 (oi:=_) rfl rfl (by kernel_rfl) (by kernel_rfl) (by kernel_rfl) (by kernel_rfl) (fun _ _ _ h=>h) (by rfl) AF ?_
             (try simp only [Act.put,qS,qZ,qU])
             refine AQ 16 84 (oi:=_) rfl rfl (by kernel_rfl) (by kernel_rfl) (by kernel_rfl) (by kernel_rfl) (fun _ _ _ h=>h) (by rfl) AF ?_
             (try simp only [Act.put,qS,qZ,qU])
             refine AQ 17 85 (oi:=_) rfl rfl (by kernel_rfl) (by kernel_rfl) (by kernel_rfl) (by kernel_rfl) (fun _ _ _ h=>h) (by rfl) AF ?_
             (try simp only [Act.put,qS,qZ,qU])
             refine AQ 18 86 (oi:=_) rfl rfl (by kernel_rfl) (by kernel_rfl) (by kernel_rfl) (by kernel_rfl) (fun _ _ _ h=>h) (by rfl) AF ?_
             (try simp only [Act.put,qS,qZ,qU])
             refine AQ 19 87 (oi:=_) rfl rfl (by kernel_rfl) (by kernel_rfl) (by kernel_rfl) (by kernel_rfl) (fun _ _ _ h=>h) (by rfl) AF ?_
             (try simp only [Act.put,qS,qZ,qU])
             refine AQ 20 88 (oi:=_) rfl rfl (by kernel_rfl) (by kernel_rfl) (by kernel_rfl) (by kernel_rfl) (fun _ _ _ h=>h) (by rfl) AF ?_
             (try simp only [Act.put,qS,qZ,qU])
             refine AQ 21 89 (oi:=_) rfl rfl (by kernel_rfl) (by kernel_rfl) (by kernel_rfl) (by kernel_rfl) (fun _ _ _ h=>h) (by rfl) AF ?_
             (try simp only [Act.put,qS,qZ,qU])
             refine AQ 22 90 (oi:=_) rfl rfl (by kernel_rfl) (by kernel_rfl) (by kernel_rfl) (by kernel_rfl) (fun _ _ _ h=>h) (by rfl) AF ?_
             (try simp only [Act.put,qS,qZ,qU])
             refine qs 23 91 AF ?_
             refine qs 24 67 AF ?_
             refine qd ?_
             have Pk:=RQ.out.below AF RQ.out.lt
             have TV:=qh (DT.out.trans (AF.mono (by omega)))
             obtain ⟨q0,q1,q2,q3⟩:=(XB.out.below AF QE).cells
             obtain ⟨r0,r1,r2,r3⟩:=Pk.cells
             obtain ⟨f0,f1,f2,f3⟩:=Pk.free
             obtain ⟨z0,z1,z2,z3⟩:=(Pk.put t false (.slice Ak nk ck) (.slice Av nv cv)).cells
             clear Pk
             go_wp2_with fail
             refine bodyPost_ret (v:=.tuple #[.agg #[.int .i64 t,.bool false,.slice Ak nk ck,.slice Av nv cv],.nilIface]) (by simp [results,Tryz.results218,go_sem,z0,z1,z2,z3]) rfl ?_
             exact EZ.pass sH.out (by rw [aJ.out];exact TV.out) Ur (QD.out.up AF) rfl
            | true =>
             by_cases h1:st.deep=0
             · have g1:(st.deep==0)=true:=by simpa using h1
               have g4:(st.deep != 0)=false:=by simpa using h1
               have g5:decide (st.deep=0)=true:=decide_eq_true h1
               clear h1 hdp
               refine AJ (T:=fun _=>false) (S:=fun w'=>Below w5.heap.size w5 w') (by kernel_rfl) (Below.refl w5.heap.size w5).drew (fun hHeld=>?_)
               obtain ⟨Us,hw0⟩:∃ x,w5.drew=x:=⟨_,rfl⟩
               rw [hw0] at hHeld ⊢
               have AF:Below w5.heap.size w5 Us:=hHeld
               clear hHeld hw0
               refine qs 0 68 AF ?_
               refine qf 1 69 rfl rfl AF (by intro w2' hSw;have q1:=AY hSw QE q1;go_simp;(try with_reducible rfl)) ?_
               refine qs 2 70 AF ?_
               refine qs 3 71 AF ?_
               refine qs 4 72 AF ?_
               refine qs 5 73 AF ?_
               refine qs 6 74 AF ?_
               refine qf 7 75 rfl rfl AF (by intro w2' hSw;have y2:=AY hSw R3 y2;go_simp;(try with_reducible rfl)) ?_
               refine qs 8 76 AF ?_
               refine qs 9 77 AF ?_
               refine qs 10 78 AF ?_
               refine AQ 11 79 (oi:=_) rfl rfl (by kernel_rfl) (by kernel_rfl) (by kernel_rfl) (by kernel_rfl) (fun _ _ _ h=>h) (by rfl) AF ?_
               (try simp only [Act.put,qS,qZ,qU])
               refine AQ 12 80 (oi:=_) rfl rfl (by kernel_rfl) (by kernel_rfl) (by kernel_rfl) (by kernel_rfl) (fun _ _ _ h=>h) (by rfl) AF ?_
               (try simp only [Act.put,qS,qZ,qU])
               refine AQ 13 81 (oi:=_) rfl rfl (by kernel_rfl) (by kernel_rfl) (by kernel_rfl) (by kernel_rfl) (fun _ _ _ h=>h) (by rfl) AF ?_
               (try simp only [Act.put,qS,qZ,qU])
               refine AQ 14 82 (oi:=_) rfl rfl (by kernel_rfl) (by kernel_rfl) (by kernel_rfl) (by kernel_rfl) (fun _ _ _ h=>h) (by rfl) AF ?_
               (try simp only [Act.put,qS,qZ,qU])
               refine AQ 15 83 (oi:=_) rfl rfl (by kernel_rfl) (by kernel_rfl) (by kernel_rfl) (by kernel_rfl) (fun _ _ _ h=>h) (by rfl) AF ?_
               (try simp only [Act.put,qS,qZ,qU])
               refine AQ 16 84 (oi:=_) rfl rfl (by kernel_rfl) (by kernel_rfl) (by kernel_rfl) (by kernel_rfl) (fun _ _ _ h=>h) (by rfl) AF ?_
               (try simp only [Act.put,qS,qZ,qU])
               refine AQ 17 85 (oi:=_) rfl rfl (by kernel_rfl) (by kernel_rfl) (by kernel_rfl) (by kernel_rfl) (fun _ _ _ h=>h) (by rfl) AF ?_
               (try simp only [Act.put,qS,qZ,qU])
               refine AQ 18 86 (oi:=_) rfl rfl (by kernel_rfl) (by kernel_rfl) (by kernel_rfl) (by kernel_rfl) (fun _ _ _ h=>h) (by rfl) AF ?_
               (try simp only [Act.put,qS,qZ,qU])
               refine AQ 19 87 (oi:=_) rfl rfl (by kernel_rfl) (by kernel_rfl) (by kernel_rfl) (by kernel_rfl) (fun _ _ _ h=>h) (by rfl) AF ?_
               (try simp only [Act.put,qS,qZ,qU])
               refine AQ 20 88 (oi:=_) rfl rfl (by kernel_rfl) (by kernel_rfl) (by kernel_rfl) (by kernel_rfl) (fun _ _ _ h=>h) (by rfl) AF ?_
               (try simp only [Act.put,qS,qZ,qU])
               refine AQ 21 89 (oi:=_) rfl rfl (by kernel_rfl) (by kernel_rfl) (by kernel_rfl) (by kernel_rfl) (fun _ _ _ h=>h) (by rfl) AF ?_
               (try simp only [Act.put,qS,qZ,qU])
               refine AQ 22 90 (oi:=_) rfl rfl (by kernel_rfl) (by kernel_rfl) (by kernel_rfl) (by kernel_rfl) (fun _ _ _ h=>h) (by rfl) AF ?_
               (try simp only [Act.put,qS,qZ,qU])
               refine qs 23 91 AF ?_
               refine qs 24 67 AF ?_
               refine qd ?_
               have Pk:=RQ.out.below AF RQ.out.lt
               have TV:=qh (DT.out.trans (AF.mono (by omega)))
               obtain ⟨q0,q1,q2,q3⟩:=(XB.out.below AF QE).cells
               obtain ⟨r0,r1,r2,r3⟩:=Pk.cells
               obtain ⟨f0,f1,f2,f3⟩:=Pk.free
               obtain ⟨z0,z1,z2,z3⟩:=(Pk.put t true (.slice Ak nk ck) (.slice Av nv cv)).cells
               clear Pk
               go_wp2_with fail
               refine bodyPost_ret (v:=.tuple #[.agg #[.int .i64 t,.bool true,.slice Ak nk ck,.slice Av nv cv],.nilIface]) (by simp [results,Tryz.results218,go_sem,z0,z1,z2,z3]) rfl ?_
               exact EZ.pass sH.out (by rw [aJ.out];exact TV.out) Ur (QD.out.up AF) rfl
             · have h2:st.deep=(way.length:Int)+1:=Decidable.not_not.1 (fun h=>hdp ⟨rfl,h1,h⟩)
               have g1:(st.deep==0)=false:=by simpa using h1
               have g4:(st.deep != 0)=true:=by simpa using h1
               have g5:decide (st.deep=0)=false:=decide_eq_false h1
               have g2:(st.deep==(way.length:Int)+1)=true:=by simpa using h2
               have g6:(st.deep != (way.length:Int)+1)=false:=by simpa using h2
               have g7:decide (st.deep=(way.length:Int)+1)=true:=decide_eq_true h2
               have g3:IntKind.i64.wrap ((way.length:Int)+1)=(way.length:Int)+1:=by rw [IntKind.wrap_i64];omega
               clear h1 h2 hdp
               refine AJ (T:=fun _=>false) (S:=fun w'=>Below w5.heap.size w5 w') (by kernel_rfl) (Below.refl w5.heap.size w5).drew (fun hHeld=>?_)
               obtain ⟨dR,hw0⟩:∃ x,w5.drew=x:=⟨_,rfl⟩
               rw [hw0] at hHeld ⊢
               have AF:Below w5.heap.size w5 dR:=hHeld
               clear hHeld hw0
               refine qs 0 68 AF ?_
               refine qf 1 69 rfl rfl AF (by intro w2' hSw;have q1:=AY hSw QE q1;go_simp;(try with_reducible rfl)) ?_
               refine qs 2 70 AF ?_
               refine qs 3 71 AF ?_
               refine qs 4 72 AF ?_
               refine qs 5 73 AF ?_
               refine qs 6 74 AF ?_
               refine qf 7 75 rfl rfl AF (by intro w2' hSw;have y2:=AY hSw R3 y2;go_simp;(try with_reducible rfl)) ?_
               refine qs 8 76 AF ?_
               refine qs 9 77 AF ?_
               refine qs 10 78 AF ?_
               refine qs 11 79 AF ?_
               refine qs 12 80 AF ?_
               refine qs 13 81 AF ?_
               refine qs 14 82 AF ?_
               refine qf 15 83 rfl rfl AF (by intro w2' hSw;have y2:=AY hSw R3 y2;go_simp;(try with_reducible rfl)) ?_
               refine qs 16 84 AF ?_
               refine qs 17 85 AF ?_
               refine qs 18 86 AF ?_
               refine qf 19 87 rfl rfl AF (by intro w2' hSw;have y8:=AY hSw R3 y8;go_simp;(try with_reducible rfl)) ?_
               refine qs 20 88 AF ?_
               refine qs 21 89 AF ?_
               refine qs 22 90 AF ?_
               refine qs 23 91 AF ?_
               refine qs 24 67 AF ?_
               refine qd ?_
               have Pk:=RQ.out.below AF RQ.out.lt
               have TV:=qh (DT.out.trans (AF.mono (by omega)))
               obtain ⟨q0,q1,q2,q3⟩:=(XB.out.below AF QE).cells
               obtain ⟨r0,r1,r2,r3⟩:=Pk.cells
               obtain ⟨f0,f1,f2,f3⟩:=Pk.free
               obtain ⟨z0,z1,z2,z3⟩:=(Pk.put t true (.slice Ak nk ck) (.slice Av nv cv)).cells
               clear Pk
               go_wp2_with fail
               refine bodyPost_ret (v:=.tuple #[.agg #[.int .i64 t,.bool true,.slice Ak nk ck,.slice Av nv cv],.nilIface]) (by simp [results,Tryz.results218,go_sem,z0,z1,z2,z3]) rfl ?_
               exact EZ.pass sH.out (by rw [aJ.out];exact TV.out) Ur (QD.out.up AF) rfl
        · generalize hf:Eh lo hi (nodeAt bs no).keys=f at *
          have hne:(f==0)=false:=by simpa using hfit
          have hall:(nodeAt bs no).keys.all (Bg lo hi)=false:=by
           cases e:(nodeAt bs no).keys.all (Bg lo hi) with
           | false=>rfl
           | true=>exact absurd (HF.out.2 e) hfit
          have HE:Hid (Di bs tree st.deep way no lo hi=9):=by show _=_;rw [IJ.out,if_pos hall]
          clear hf hfit hall IJ HF hlf
          go_upto_region 10 with (go_at_call 230;refine jv.out.mono ?_;rintro e w5 ⟨rfl,BX⟩)
          have HG:=qh (HG.out.below BX HG.out.lt)
          have Vf:=qh (Vf.out.below BX Vf.out.lt)
          have TV:=qh (TV.out.trans (BX.mono (by omega)))
          have hbl:w.heap.size+1<w5.heap.size:=by have:=BX.size;omega
          clear BX q0 q1 q2 q3 r0 r1 r2 r3 f0 f1 f2 f3 z0 z1 z2 z3 jv x0 x1 y2 y8
          refine AJ (T:=fun _=>false) (S:=fun w'=>AP w' g t lf (.slice Ak nk ck) (.slice Av nv cv)) (by kernel_rfl) (HG.out) (fun hHeld=>?_)
          refine qf 0 63 rfl rfl hHeld (by intro w hSw;obtain ⟨x0,x1,x2,x3⟩:=AP.cells hSw;go_simp;(try with_reducible rfl)) ?_
          refine qs 1 64 hHeld ?_
          refine qs 2 65 hHeld ?_
          refine qo 3 fun K hK=>?_
          go_simp
          refine (Cc w5.drew no 44 (.int .i64 9)).mono ?_
          rintro e wE ⟨rfl,Eo⟩
          have IP:Below w5.heap.size w5 wE:=by (rw [Eo];exact ((Below.refl _ _).drew.alloc (Nat.le_refl _) _))
          have Bt:=Vf.out.below IP Vf.out.lt
          obtain ⟨r0,r1,r2,r3⟩:=Bt.cells
          obtain ⟨f0,f1,f2,f3⟩:=Bt.free
          obtain ⟨z0,z1,z2,z3⟩:=(Bt.put t lf (.slice Ak nk ck) (.slice Av nv cv)).cells
          have Rf:=qh Eo
          clear Eo
          have hHeld:=(show AP wE g t lf (.slice Ak nk ck) (.slice Av nv cv) from HG.out.below IP HG.out.lt)
          refine hK.out _ _ (fun _=>hHeld) (fun _=>?_)
          clear hK K
          (try simp only [Act.put,qS])
          refine qo 4 fun K hK=>?_
          go_simp
          have BI:=(show AP _ g t lf (.slice Ak nk ck) (.slice Av nv cv) from AP.UR hHeld hgb (.int .i64 t) (.bool lf) (.slice Ak nk ck) (.slice Av nv cv))
          clear hHeld
          have hHeld:=BI
          clear BI
          refine hK.out _ _ (fun _=>hHeld) (fun _=>?_)
          clear hK K
          (try simp only [Act.put,qS])
          refine qs 5 7 hHeld ?_
          refine qd ?_
          go_wp2_with fail
          refine bodyPost_ret (v:=.tuple #[.agg #[.int .i64 t,.bool lf,.slice Ak nk ck,.slice Av nv cv],.iface 184 (.pointer (some ⟨w5.heap.size,0,none⟩))]) (by simp [results,Tryz.results218,go_sem,z0,z1,z2,z3]) rfl ?_
          exact EZ.bad w5.drew 9 (by decide) HE.out (by rw [aJ.out];exact TV.out.drew) hbl t lf Ak Av nk ck nv cv wE _ Rf.out rfl
end
end Go.Proofs.YthblbddmcdnllaaGreatDoor
