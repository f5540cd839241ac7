/- Part 15 of the proof: WNodeW, WSuper3, WVal2, WRFault, WRWrap, WTall0. -/
import Derived.Test.YtpenklpdjpkigaaGreatY6
import Derived.Test.YtpenklpdjpkigaaGreatY4
import Derived.Test.YtpenklpdjpkigaaGreatY14
import Derived.Test.YtpenklpdjpkigaaGreatY13
import Derived.Deep.QuietTactic
import Derived.BigQuiet
import Derived.Test.YtpenklpdjpkigaaGreatY7
import Derived.Test.YtpenklpdjpkigaaGreatY2
import Derived.Test.YtpenklpdjpkigaaGreatY1
import Derived.Deep.Onto
import Derived.Lib.Hide
import Derived.Outline
import Derived.Deep.Cut
import Derived.Deep.CutBlock
import Derived.Deep.DeepCutAuto
import Derived.Test.YtpenklpdjpkigaaGreatY11
import Derived.Test.YtpenklpdjpkigaaGreatY5
import Derived.Deep.OwnRows
set_option maxHeartbeats 6400000
set_option linter.unusedVariables false
set_option linter.unusedSimpArgs false
namespace Go.Proofs.YtpenklpdjpkigaaGreat
section
open Go.RowKit
theorem Z4 (w:World) (b:Bool):Calls Tryz.prog 234 #[.bool b] w fun e w'=>e=.returned (.int .i64 (if b then 1 else 0))∧w'=w:=by
 cases b
 · go_enter Tryz.func234,Tryz.ntmps234
   go_wp2
   go_ret
   exact ⟨rfl,rfl⟩
 · go_enter Tryz.func234,Tryz.ntmps234
   go_wp2
   go_ret
   exact ⟨rfl,rfl⟩
set_option maxRecDepth 100000 in
theorem Sz (w:World) (t:Int) (h1:1≤t) (h5:t≤5) :
 Calls Tryz.prog 233 #[.agg #[.int .i64 t,.bool true,.slice none 0 0,.slice none 0 0]] w fun e w'=>e=.returned (.bool true)∧Below w.heap.size w w':=by
 have xf:=qh (fun w'=>GJ w' t true)
 have tu:=qh (fun w'=>Ho w' t true)
 have hwc:¬ (BF t true:Int)=0∧0≤(BZ t true:Int):=by
  refine ⟨?_,by omega⟩
  rcases O8 (t:=t) (by omega) (by omega) with rfl|rfl|rfl|rfl|rfl <;> decide
 obtain ⟨hw0,hm0⟩:=hwc
 generalize (BF t true:Int)=wd at *
 generalize (BZ t true:Int)=mk at *
 have hwb:(wd==0)=false:=by rw [beq_eq_false_iff_ne];exact hw0
 have hmb:decide (mk<0)=false:=decide_eq_false (by omega)
 have hbx:=AP.new w #[.int .i64 t,.bool true,.slice none 0 0,.slice none 0 0] 173
 have hBx:Below w.heap.size w (w.alloc (.cells #[.int .i64 t,.bool true,.slice none 0 0,.slice none 0 0] 173)):=(Below.refl _ _).alloc (Nat.le_refl _) _
 clear h1 h5
 go_enter Tryz.func233,Tryz.ntmps233
 go_upto_region 1 with fail
 generalize w.alloc (.cells #[.int .i64 t,.bool true,.slice none 0 0,.slice none 0 0] 173)=w1 at *
 obtain ⟨g,hg⟩:∃ q,w.heap.size=q:=⟨_,rfl⟩
 have HB1:=qh hBx
 rw [hg] at hbx ⊢
 have x0:w1.cell? ⟨g,0,none⟩=some (.int .i64 t):=hbx.at 0 _ rfl
 have x1:w1.cell? ⟨g,1,none⟩=some (.bool true):=hbx.at 1 _ rfl
 have x2:w1.cell? ⟨g,2,none⟩=some (.slice none 0 0):=hbx.at 2 _ rfl
 have x3:w1.cell? ⟨g,3,none⟩=some (.slice none 0 0):=hbx.at 3 _ rfl
 clear hbx hBx hg hw0 hm0
 go_upto_region 2 with (go_at_call 196;(with_reducible refine (xf.out _).mono ?_);rintro e w2 ⟨rfl,hw⟩;rw [hw];clear hw w2)
 go_quiet (first|(go_at_call 197;refine Calls.quiet_of_same (tu.out _)))
 go_wp2_with fail
 have HB2:Hid (Below w.heap.size w (w1.drewN nq)):=HB1.out.trans ((Touch.drewN (R:=fun _=>False) nq).below (fun x h=>h.elim) HB1.out.size)
 generalize w1.drewN nq=w2 at *
 go_loopw [47] (fun vi wr=>vi=.int .i64 0∧wr=w2) (fun vi _=>1)
 case atStart=>exact ⟨rfl,rfl⟩
 case round =>
  obtain ⟨rfl,hwr⟩:=hrel
  rw [hwr]
  clear hwr wr
  go_wp2_with fail
  refine bodyPost_ret (v:=.bool true) (by simp [results,Tryz.results233,go_sem]) rfl ⟨rfl,HB2.out⟩
def JP (t:Int):List (Nat × Int):=[(1,1),(1,t),(2,0),(2,(BF t true:Int)),(2,(BZ t true:Int)),(4,0)]
def Rk:List UInt8:=List.replicate 244 0
def EB (t:Int):List UInt8:=Gc Rk 0 (BB (JP t))
theorem Z5 {t:Int} (h1:1≤t) (h5:t≤5):∀ f∈JP t,FX f:=by
 rcases O8 (t:=t) (by omega) (by omega) with rfl|rfl|rfl|rfl|rfl <;>
 · intro f hf
   simp only [JP,List.mem_cons,List.not_mem_nil,or_false] at hf
   rcases hf with rfl|rfl|rfl|rfl|rfl|rfl <;> (unfold FX Lh;decide)
theorem KU (t:Int) (h1:1≤t) (h5:t≤5):(EB t).length=244:=by
 unfold EB
 rw [MC]
 · unfold Rk;rw [List.length_replicate]
 · rw [ES]
   unfold Rk JP
   rw [List.length_replicate]
   simp only [List.map_cons,List.map_nil,Ct]
   omega
end
section
open Go.RowKit Go.Shelf
attribute [local go_sem] Oper.semAt_some
theorem gJ:(Tryz.prog.info? 249).map (fun i=>(i.zero,i.size,i.bytes))=some (some (.agg #[.int .i64 0,.int .i64 0]),2,16):=by kernel_rfl
theorem gK (a b:Int):∀ u∈[Value.int .i64 a,Value.int .i64 b],u.oneCell'=true:=by
 intro u hu
 simp at hu
 rcases hu with rfl|rfl <;> rfl
def U1 (w:World) (base lb:Nat) (fs:List (Nat × Int)):Prop :=
 ∃ A c,One w lb (.slice A fs.length c) 250∧w.ownsRow base 249 2 (.slice A fs.length c) fs.length (AB Qa fs)
set_option maxRecDepth 100000 in
theorem gL (w:World) (base a k lb:Nat) (x lo hi:Int) (fs:List (Nat × Int)) (cs:Array Value) (T:TypeId) (hx:AP w a cs T) (hk:cs[k]? = some (.int .i64 x)) (hT:T≠249) (hTl:a≠lb) (hF:U1 w base lb fs) (hn:fs.length≤100) (hb:base≤w.heap.size) :
 Calls Tryz.prog 134 #[.pointer (some ⟨a,k,none⟩),.int .i64 lo,.int .i64 hi,.pointer (some ⟨lb,0,none⟩)] w fun e w'=>e=.returned (.tuple #[])∧U1 w' base lb (fs++[(4,x)])∧AP w' a cs T∧(∀ g d t,t≠249→g≠lb→AP w g d t→AP w' g d t)∧Touch (fun y=>base≤y∨y=lb) w w':=by
 obtain ⟨A,c,hl,how⟩:=hF
 generalize hnn:fs.length=n at *
 have HN:=qh hnn
 clear hnn
 have y0:=hl.cell
 have y1:=hx.at k _ hk
 have z0:=hl.free
 have hal:=hx.lt
 have hll:=hl.lt
 have hf1:some lb≠(Value.slice A n c).ownBlock:=BC how hl (by decide)
 have hf2:some a≠(Value.slice A n c).ownBlock:=BC how hx (fun e=>hT e.symm)
 have NW:Hid (∀ w':World,Below w.heap.size w w'→w'.cell? ⟨lb,0,none⟩=some (.slice A n c)∧w'.frozen? ⟨lb,0,none⟩=false∧w'.cell? ⟨a,k,none⟩=some (.int .i64 x)):=fun w' hB=>⟨AQ hB hll y0,(hB.frozen (p:=⟨lb,0,none⟩) hll).trans z0,AQ hB hal y1⟩
 have HOW:=qh how
 have HX:=qh hx
 have HL:=qh hl
 have mE:=qh hTl
 have HKK:=qh hT
 clear y0 y1 z0 how hx hl hk hTl hT
 go_enter Tryz.func134,Tryz.ntmps134
 go_upto_region 0 with fail
 refine AF (T:=fun j=>j==7) (S:=fun w'=>w'.cell? ⟨lb,0,none⟩=some (.slice A n c)∧w'.frozen? ⟨lb,0,none⟩=false∧w'.cell? ⟨a,k,none⟩=some (.int .i64 x)) (by kernel_rfl) (NW.out w.drew (Below.refl _ _).drew) (fun hHeld=>?_)
 refine qf 0 7 rfl rfl hHeld (by intro w hSw;have y0:=hSw.1;go_simp;(try with_reducible rfl)) ?_
 refine qs 1 8 hHeld ?_
 refine qs 2 9 hHeld ?_
 refine qf 3 10 rfl rfl hHeld (by intro w hSw;have y1:=hSw.2.2;go_simp;(try with_reducible rfl)) ?_
 refine qs 4 11 hHeld ?_
 refine qo 5 fun K hK=>?_
 go_simp
 clear hHeld
 have hHeld:=NW.out (w.drew.alloc (.cells #[.int .i64 4,.int .i64 x] 249)) ((Below.refl _ _).drew.alloc (by simp) _)
 refine hK.out _ _ (fun _=>hHeld) (fun _=>?_)
 clear hK K
 (try simp only [Act.put,qS])
 refine qo 6 fun K hK=>?_
 refine BD Tryz.underlying250 gJ rfl (by omega) (by omega) rfl _ _ rfl base (.slice A n c) n (AB Qa fs) rfl (HOW.out.drew.alloc _) (some ⟨w.heap.size,0,none⟩) 1 1 [.int .i64 4,.int .i64 x] rfl rfl (fun d hd=>by cases hd;exact Cm w.drew [.int .i64 4,.int .i64 x] 249) (gK 4 x) (by omega) (by simp;omega) (by intro h;cases h) ?_
 intro A9 c9 w9 CZ Cu Fh
 have hHeld:=(show World.cell? w9 ⟨lb,0,none⟩=some (.slice A n c)∧World.frozen? w9 ⟨lb,0,none⟩=false∧World.cell? w9 ⟨a,k,none⟩=some (.int .i64 x) from ⟨(Cu.cell_far ⟨lb,0,none⟩ (by simp;omega) hf1).trans hHeld.1,(Cu.frozen_far ⟨lb,0,none⟩ (by simp;omega) hf1).trans hHeld.2.1,(Cu.cell_far ⟨a,k,none⟩ (by simp;omega) hf2).trans hHeld.2.2⟩)
 refine hK.out _ _ (fun _=>hHeld) (fun _=>?_)
 clear hK K
 (try simp only [Act.put])
 refine qo 7 fun K hK=>?_
 have y0:=hHeld.1;have z0:=hHeld.2.1
 go_simp
 refine hK.out _ _ (fun h=>by cases h) (fun _=>?_)
 clear hK K hHeld
 (try simp only [Act.put,qS])
 refine qd ?_
 have Cu:World.grownBy (w.drew.alloc (.cells #[.int .i64 4,.int .i64 x] 249)) w9 (Value.slice A n c).ownBlock:=Cu
 have E5:w.grownBy w9 (Value.slice A n c).ownBlock:=have h:=Ij (w:=w.drew) Cu;⟨h.os,h.tape,h.output,h.size,h.block⟩
 have HG:=qh E5
 have Qp:=qh CZ
 clear Cu E5 CZ Fh hHeld hf1 hf2
 go_wp2_with fail
 (try simp only [Exit.inBlock,Exit.then])
 refine bodyPost_end (results_none rfl _ _ _) rfl ?_
 have hfl:(fs++[((4:Nat),x)]).length=n+1:=by rw [List.length_append,HN.out];rfl
 have k1:∀ g d t,t≠249→AP w g d t→AP w9 g d t:=fun g d t ht h=>(HG.out.block g h.lt (BC HOW.out h (fun e=>ht e.symm))).trans h
 have hl9:One w9 lb (.slice A n c) 250:=k1 lb _ _ (by decide) HL.out
 have kP:w9.ownsRow base 249 2 (.slice A9 (n+1) c9) (n+1) (AB Qa (fs++[((4:Nat),x)])):=by
  rw [Ba];exact Qp.out
 refine ⟨rfl,⟨A9,c9,by rw [hfl];exact hl9.Dc,by rw [hfl];exact Ah (a:=⟨lb,0,none⟩) kP (BL (g:=lb) kP hl9 (by decide)) _⟩,(k1 a _ _ HKK.out HX.out).far (fun e=>mE.out e.symm) 0 _,fun g d t ht hg h=>(k1 g d t ht h).far (fun e=>hg e.symm) 0 _,?_⟩
 exact (Touch.BO HG.out (fun y hy=>.inl (HOW.out.lt y hy).1)).trans (Touch.Dc (R:=fun y=>base≤y∨y=lb) (p:=⟨lb,0,none⟩) (.inr rfl))
theorem U2:∀ args w,(callFunc 134 args).run Tryz.prog w=.ok (.enter 134 args) w:=enters_of Tryz.func134 (by kernel_rfl) rfl
theorem PR (s:Nl) {k:Nat} (hk:k<11):(CB s).take (k+2)=(CB s).take (k+1)++[(4,nth 0 (SS s) k)]:=by
 have hl:(CB s).length=12:=rfl
 rw [DV (0,0) (CB s) (k+1) (by omega)]
 congr 2
 have:k=0∨k=1∨k=2∨k=3∨k=4∨k=5∨k=6∨k=7∨k=8∨k=9∨k=10:=by omega
 rcases this with rfl|rfl|rfl|rfl|rfl|rfl|rfl|rfl|rfl|rfl|rfl <;> rfl
theorem mF (w0:World) (base g lb:Nat) (s:Nl) (hne:g≠lb) (hb:base≤w0.heap.size):Si 134 g #[.pointer (some ⟨lb,0,none⟩)] s.blocks fun k w=>AP w g (Gu s) 69∧U1 w base lb ((CB s).take (k+1))∧Touch (fun y=>base≤y∨y=lb) w0 w where
 al:=fun k w o ⟨h1,⟨A,c,h2,h3⟩,h4⟩=>⟨(Below.heap_alloc w o g h1.lt).trans h1,⟨A,c,h2.alloc o,h3.alloc o⟩,h4.trans (Touch.alloc o)⟩
 dr:=fun k w ⟨h1,⟨A,c,h2,h3⟩,h4⟩=>⟨h1,⟨A,c,h2,h3.drew⟩,h4.trans Touch.drew⟩
 at4:=fun k w _ h=>h.1.at 4 _ rfl
 go:=fun k lo hi hs w ⟨h1,h2,h3⟩=>by
  obtain ⟨hk,rfl,rfl⟩:=Sj hs
  have hz:=h3.size
  refine (gL w base g k lb (nth 0 (SS s) k) (xR k) (xS s.blocks k) _ _ _ h1 (fF s hk) (by decide) hne h2 (by rw [List.length_take];omega) (by omega)).mono ?_
  rintro e w' ⟨rfl,h5,h6,h7,h8⟩
  obtain ⟨A,c,hl,_⟩:=h2
  refine ⟨rfl,⟨h6,by rw [PR s hk];exact h5,h3.trans h8⟩,fun ga d hd=>h7 ga d _ (by decide) (fun e=>?_) hd⟩
  subst e
  unfold One at hl
  unfold AP at hd
  rw [hl] at hd
  injection hd with hd
  injection hd with _ h4
  exact absurd h4 (by decide)
end
section
open Go.RowKit
attribute [local go_sem] Oper.semAt_some
theorem mG {w0 w:World} {B b:Nat} (h:Below B w0 w) (hb:B≤b) (u0 u1 u2 u3:Value) :
 Below B w0 ((((w.setCell ⟨b,0,none⟩ u0).setCell ⟨b,1,none⟩ u1).setCell ⟨b,2,none⟩ u2).setCell ⟨b,3,none⟩ u3) :=
 (((h.setCell (p:=⟨b,0,none⟩) hb u0).setCell (p:=⟨b,1,none⟩) hb u1).setCell (p:=⟨b,2,none⟩) hb u2).setCell (p:=⟨b,3,none⟩) hb u3
theorem S9 {w:World} {b c o:Nat} (hb:b≠c) (u0 u1 u2 u3:Value):((((w.setCell ⟨b,0,none⟩ u0).setCell ⟨b,1,none⟩ u1).setCell ⟨b,2,none⟩ u2).setCell ⟨b,3,none⟩ u3).cell? ⟨c,o,none⟩=w.cell? ⟨c,o,none⟩:=by
 have hb':c≠b:=Ne.symm hb
 apply World.cell?_of_block
 rw [Below.heap_setCell _ ⟨b,3,none⟩ u3 c hb',Below.heap_setCell _ ⟨b,2,none⟩ u2 c hb',Below.heap_setCell _ ⟨b,1,none⟩ u1 c hb',Below.heap_setCell _ ⟨b,0,none⟩ u0 c hb']
def dtV (d:Dt):Value:=.agg #[.int .i64 d.mapped,.int .i64 d.tx,.int .i64 d.made,.int .i64 d.Bb]
set_option maxRecDepth 100000 in
theorem PT (w:World) (s:List UInt8) (hl:s.length≤140737488355328) :
 Calls Tryz.prog 49 #[.string (Am s)] w fun e w'=>e=.returned (.tuple #[dtV (CP s).1,.int .i64 (CP s).2])∧Below w.heap.size w w':=by
 have hb1:=AP.new w #[.int .i64 0,.int .i64 0,.int .i64 0,.int .i64 0] 122
 have hB1:Below w.heap.size w (w.alloc (.cells #[.int .i64 0,.int .i64 0,.int .i64 0,.int .i64 0] 122)):=(Below.refl _ _).alloc (Nat.le_refl _) _
 have h:=Mw (w.alloc (.cells #[.int .i64 0,.int .i64 0,.int .i64 0,.int .i64 0] 122)) #[.int .i64 8,.int .i64 0,.int .i64 16384,.int .i64 8,.int .i64 0,.int .i64 2147483647,.int .i64 4,.int .i64 0,.int .i64 16777215,.int .i64 4,.int .i64 0,.int .i64 16777215] Ey s 4 rfl (by rfl) NK (by decide) hl
 rw [SQ] at h
 have HP:=qh (Sy (w.alloc (.cells #[.int .i64 0,.int .i64 0,.int .i64 0,.int .i64 0] 122)))
 obtain ⟨n,e0⟩:∃ n,(CP s).1=n:=⟨_,rfl⟩
 obtain ⟨E,e1⟩:∃ E,(CP s).2=E:=⟨_,rfl⟩
 rw [e0,e1] at h
 rw [e0,e1]
 clear e0 e1
 obtain ⟨d0,d1,d2,d3⟩:=n
 have h4:=h.mono (R':=fun e w'=>(∃ A c,e=.returned (.tuple #[.slice A 4 c,.int .i64 E])∧∃ b off,A=some ⟨b,off,none⟩∧w.heap.size<b∧w'.cell? ⟨b,off,none⟩=some (.int .i64 d0)∧w'.cell? ⟨b,off+1,none⟩=some (.int .i64 d1)∧w'.cell? ⟨b,off+2,none⟩=some (.int .i64 d2)∧w'.cell? ⟨b,off+3,none⟩=some (.int .i64 d3))∧Below (w.alloc (.cells #[.int .i64 0,.int .i64 0,.int .i64 0,.int .i64 0] 122)).heap.size (w.alloc (.cells #[.int .i64 0,.int .i64 0,.int .i64 0,.int .i64 0] 122)) w') (by
  rintro e w' ⟨⟨A,c,rfl,hc⟩,hB⟩
  obtain ⟨b,off,rfl,hb,_,h1⟩:=hc (by simp [xN])
  exact ⟨⟨_,c,rfl,b,off,rfl,by simp at hb;omega,h1 0 (by simp [xN]),h1 1 (by simp [xN]),h1 2 (by simp [xN]),h1 3 (by simp [xN])⟩,hB⟩)
 have H:=qh h4
 clear h h4
 go_enter Tryz.func49,Tryz.ntmps49
 go_upto_region 1 with fail
 generalize w.alloc (.cells #[.int .i64 0,.int .i64 0,.int .i64 0,.int .i64 0] 122)=w1 at *
 go_upto_region 2 with (first
  | (go_at_call 87;refine HP.out.mono ?_;rintro e w9 ⟨rfl,rfl⟩)
  | (go_at_call 82;refine H.out.mono ?_;rintro e w2 ⟨⟨A,c,rfl,b,off,rfl,hb,q0,q1,q2,q3⟩,hB⟩))
 have hb2:=hb1.below hB hb1.lt
 have hB2:=hB1.trans (hB.mono hB1.size)
 obtain ⟨r0,r1,r2,r3⟩:=hb2.Cf
 obtain ⟨f0,f1,f2,f3⟩:=hb2.JV
 obtain ⟨z0,z1,z2,z3⟩:=(hb2.sH (.int .i64 d0) (.int .i64 d1) (.int .i64 d2) (.int .i64 d3)).Cf
 have HB2:=qh hB2
 clear hB hB2 hB1 hb1 H HP
 have hne:w.heap.size≠b:=by omega
 refine AF (T:=fun _=>false) (S:=fun w'=>w'.cell? ⟨b,off,none⟩=some (.int .i64 d0)∧w'.cell? ⟨b,off+1,none⟩=some (.int .i64 d1)∧w'.cell? ⟨b,off+2,none⟩=some (.int .i64 d2)∧w'.cell? ⟨b,off+3,none⟩=some (.int .i64 d3)) (by kernel_rfl) (⟨q0,q1,q2,q3⟩) (fun hHeld=>?_)
 refine qs 0 12 hHeld ?_
 refine qs 1 13 hHeld ?_
 refine qf 2 14 rfl rfl hHeld (by intro w hSw;have q0:=hSw.1;go_simp;(try with_reducible rfl)) ?_
 refine qs 3 15 hHeld ?_
 refine qs 4 16 hHeld ?_
 refine qf 5 17 rfl rfl hHeld (by intro w hSw;have q1:=hSw.2.1;go_simp;(try with_reducible rfl)) ?_
 refine qs 6 18 hHeld ?_
 refine qs 7 19 hHeld ?_
 refine qf 8 20 rfl rfl hHeld (by intro w hSw;have q2:=hSw.2.2.1;go_simp;(try with_reducible rfl)) ?_
 refine qs 9 21 hHeld ?_
 refine qs 10 22 hHeld ?_
 refine qf 11 23 rfl rfl hHeld (by intro w hSw;have q3:=hSw.2.2.2;go_simp;(try with_reducible rfl)) ?_
 refine qs 12 24 hHeld ?_
 refine qs 13 25 hHeld ?_
 refine qo 14 fun K hK=>?_
 go_simp
 have Bi:=(show World.cell? _ ⟨b,off,none⟩=some (.int .i64 d0)∧World.cell? _ ⟨b,off+1,none⟩=some (.int .i64 d1)∧World.cell? _ ⟨b,off+2,none⟩=some (.int .i64 d2)∧World.cell? _ ⟨b,off+3,none⟩=some (.int .i64 d3) from ⟨(S9 hne (.int .i64 d0) (.int .i64 d1) (.int .i64 d2) (.int .i64 d3)).trans hHeld.1,(S9 hne (.int .i64 d0) (.int .i64 d1) (.int .i64 d2) (.int .i64 d3)).trans hHeld.2.1,(S9 hne (.int .i64 d0) (.int .i64 d1) (.int .i64 d2) (.int .i64 d3)).trans hHeld.2.2.1,(S9 hne (.int .i64 d0) (.int .i64 d1) (.int .i64 d2) (.int .i64 d3)).trans hHeld.2.2.2⟩)
 clear hHeld
 have hHeld:=Bi
 clear Bi
 refine hK.out _ _ (fun _=>hHeld) (fun _=>?_)
 clear hK K
 (try simp only [Act.put,qS])
 refine qs 15 3 hHeld ?_
 refine qd ?_
 go_wp2_with fail
 refine bodyPost_ret (v:=.tuple #[.agg #[.int .i64 d0,.int .i64 d1,.int .i64 d2,.int .i64 d3],.int .i64 E]) (by simp [results,Tryz.results49,go_sem,z0,z1,z2,z3]) rfl ⟨rfl,?_⟩
 exact (mG HB2.out (Nat.le_refl _) (.int .i64 d0) (.int .i64 d1) (.int .i64 d2) (.int .i64 d3)).drew
end
section
open Go.RowKit
attribute [local go_sem] Oper.semAt_some
set_option maxRecDepth 100000 in
theorem YT (w:World) (S:Nat→Prop) (A:Option Addr) (c:Nat) (b:Int) (f:K6) (hS:∀ b,S b→b<w.heap.size) (h:Aa w S (.slice A f.blocks.length c) f.blocks) (hl:f.blocks.length≤1000000) :
 Calls Tryz.prog 63 #[.int .i64 b,.agg #[.slice A f.blocks.length c,.int .i64 f.code]] w fun e w'=>(∃ v,e=.returned v∧RF w' (C9 w.heap.size w'.heap.size) v (UB b f))∧Below w.heap.size w w':=by
 obtain ⟨bs,cd⟩:=f
 dsimp only at h hl ⊢
 have hrow:=h.DC.2.2
 have hnil:A=none→bs.length=0:=fun e=>by
  rcases Nat.eq_zero_or_pos bs.length with h0|h0
  · exact h0
  · obtain ⟨_,_,e2,_⟩:=BR hrow h0
    rw [e] at e2
    cases e2
 obtain ⟨h0,h1,hB,hz⟩:=AP.two w #[.slice A bs.length c,.int .i64 cd] #[.slice none 0 0,.int .i64 0] 78 78
 go_enter Tryz.func63,Tryz.ntmps63
 go_upto_region 1 with fail
 generalize (w.alloc (.cells #[.slice A bs.length c,.int .i64 cd] 78)).alloc (.cells #[.slice none 0 0,.int .i64 0] 78)=w1 at *
 have hw1:w.heap.size+1<w1.heap.size:=by omega
 have x0:=h0.at 0 _ rfl
 have x1:=h0.at 1 _ rfl
 have y0:=h1.at 0 _ rfl
 have y1:=h1.at 1 _ rfl
 have z0:=h1.free 0
 have z1:=h1.free 1
 have HB:=qh hB
 have H1:=qh h1
 have WW:w.heap.size<w1.heap.size:=by omega
 by_cases hc:cd=0
 · subst hc
   have H2:=qh (h1.UW (.slice none 0 0) (.int .i64 0))
   have HT:=qh (Eh w1 (w.heap.size+1) (.slice none 0 0) (.int .i64 0))
   clear h0 h1 hB hz h hrow hS hnil
   go_wp2_with fail
   have r0:=H2.out.at 0 _ rfl
   have r1:=H2.out.at 1 _ rfl
   refine bodyPost_ret (v:=.agg #[.slice none 0 0,.int .i64 0]) (by simp [results,Tryz.results63,go_sem,r0,r1]) rfl ⟨⟨_,rfl,RF.zero⟩,HB.out.trans ((HT.out.weak (R':=fun x=>w.heap.size≤x) (fun x e=>by omega)).below (fun x h=>h) (by omega))⟩
 · have hcb:(cd==0)=false:=by simpa using hc
   have Ga:Hid (∀ d,A=some d→∀ j u,(AB encI bs)[j]? = some u→w1.cell? (d.add j)=some u∧(d.add j).block<w.heap.size):=fun d e j u hu=>by
    subst e
    have hj:j<bs.length:=by
     have:=(List.getElem?_eq_some_iff.1 hu).1
     rwa [CU,List.length_map] at this
    obtain ⟨b',o',e,hb,_⟩:=BR hrow (by omega)
    injection e with e
    subst e
    have:=UX hrow j u hu
    rw [show (⟨b',o',none⟩:Addr).add j=⟨b',o'+j,none⟩ by simp [Addr.add]] at this ⊢
    exact ⟨AQ hB (hS b' hb) this,hS b' hb⟩
   have Z6:=qh hnil
   clear h0 h1 hB h hrow hS hnil hz hc
   generalize hn:bs.length=n at *
   have HN:=qh hn
   clear hn
   go_upto_region 3 with fail
   have HA0:Hid (∀ w':World,Below w1.heap.size w1 w'→Below w.heap.size w w'):=fun w' hB=>HB.out.trans (hB.mono HB.out.size)
   have qA:some w.heap.size≠(Value.slice (some ⟨w1.heap.size,0,none⟩) 1 1).ownBlock:=fun e=>by injection e with e;dsimp only at e;omega
   have hfg:some (w.heap.size+1)≠(Value.slice (some ⟨w1.heap.size,0,none⟩) 1 1).ownBlock:=fun e=>by injection e with e;dsimp only at e;omega
   have hq1:w.heap.size<(w1.drew.alloc (.cells #[.int .i64 b] 3)).heap.size:=by simp;omega
   have hq2:w.heap.size+1<(w1.drew.alloc (.cells #[.int .i64 b] 3)).heap.size:=by simp;omega
   refine AF (T:=fun j=>j==8) (S:=fun w'=>w'.cell? ⟨w.heap.size,0,none⟩=some (.slice A n c)∧w'.cell? ⟨w.heap.size,1,none⟩=some (.int .i64 cd)∧w'.cell? ⟨w.heap.size+1,0,none⟩=some (.slice none 0 0)∧w'.cell? ⟨w.heap.size+1,1,none⟩=some (.int .i64 0)∧w'.frozen? ⟨w.heap.size+1,0,none⟩=false∧w'.frozen? ⟨w.heap.size+1,1,none⟩=false) (by kernel_rfl) (⟨x0,x1,y0,y1,z0,z1⟩) (fun hHeld=>?_)
   refine qs 0 9 hHeld ?_
   refine qs 2 11 hHeld ?_
   refine qf 3 12 rfl rfl hHeld (by intro w hSw;have x0:=hSw.1;go_simp;(try with_reducible rfl)) ?_
   refine qs 5 14 hHeld ?_
   refine qf 6 15 rfl rfl hHeld (by intro w hSw;have x1:=hSw.2.1;go_simp;(try with_reducible rfl)) ?_
   refine qo 1 fun K hK=>?_
   go_simp
   clear hHeld
   have hHeld:=(show World.cell? (w1.drew.alloc (.cells #[.int .i64 b] 3)) ⟨w.heap.size,0,none⟩=some (.slice A n c)∧World.cell? (w1.drew.alloc (.cells #[.int .i64 b] 3)) ⟨w.heap.size,1,none⟩=some (.int .i64 cd)∧World.cell? (w1.drew.alloc (.cells #[.int .i64 b] 3)) ⟨w.heap.size+1,0,none⟩=some (.slice none 0 0)∧World.cell? (w1.drew.alloc (.cells #[.int .i64 b] 3)) ⟨w.heap.size+1,1,none⟩=some (.int .i64 0)∧World.frozen? (w1.drew.alloc (.cells #[.int .i64 b] 3)) ⟨w.heap.size+1,0,none⟩=false∧World.frozen? (w1.drew.alloc (.cells #[.int .i64 b] 3)) ⟨w.heap.size+1,1,none⟩=false from ⟨(World.cell?_of_block (a:=⟨w.heap.size,0,none⟩) (Below.heap_alloc w1.drew _ _ WW)).trans x0,(World.cell?_of_block (a:=⟨w.heap.size,1,none⟩) (Below.heap_alloc w1.drew _ _ WW)).trans x1,(World.cell?_of_block (a:=⟨w.heap.size+1,0,none⟩) (Below.heap_alloc w1.drew _ _ hw1)).trans y0,(World.cell?_of_block (a:=⟨w.heap.size+1,1,none⟩) (Below.heap_alloc w1.drew _ _ hw1)).trans y1,(World.frozen?_of_block (a:=⟨w.heap.size+1,0,none⟩) (Below.heap_alloc w1.drew _ _ hw1)).trans z0,(World.frozen?_of_block (a:=⟨w.heap.size+1,1,none⟩) (Below.heap_alloc w1.drew _ _ hw1)).trans z1⟩)
   refine hK.out _ _ (fun _=>hHeld) (fun _=>?_)
   clear hK K
   (try simp only [Act.put,qS])
   refine qo 4 fun K hK=>?_
   refine BD Tryz.underlying29 Ej rfl (by omega) (by omega) rfl _ _ rfl w1.heap.size (.slice (some ⟨w1.heap.size,0,none⟩) 1 1) 1 [.int .i64 b] rfl (lJ w1.drew (.int .i64 b) 3) A n c (AB encI bs) rfl (by rw [Bw (size:=1) Bh,HN.out]) (fun d hd j u hu=>by have h0:=Ga.out d hd j u hu;exact (World.cell?_of_block (Below.heap_alloc w1.drew _ _ (by show (d.add j).block<w1.heap.size;omega))).trans h0.1) (Lm bs) (by omega) (by simp) Z6.out ?_
   intro A9 c9 w9 CZ Cu Fh
   have hHeld:=(show World.cell? w9 ⟨w.heap.size,0,none⟩=some (.slice A n c)∧World.cell? w9 ⟨w.heap.size,1,none⟩=some (.int .i64 cd)∧World.cell? w9 ⟨w.heap.size+1,0,none⟩=some (.slice none 0 0)∧World.cell? w9 ⟨w.heap.size+1,1,none⟩=some (.int .i64 0)∧World.frozen? w9 ⟨w.heap.size+1,0,none⟩=false∧World.frozen? w9 ⟨w.heap.size+1,1,none⟩=false from ⟨(Cu.cell_far ⟨w.heap.size,0,none⟩ hq1 qA).trans hHeld.1,(Cu.cell_far ⟨w.heap.size,1,none⟩ hq1 qA).trans hHeld.2.1,(Cu.cell_far ⟨w.heap.size+1,0,none⟩ hq2 hfg).trans hHeld.2.2.1,(Cu.cell_far ⟨w.heap.size+1,1,none⟩ hq2 hfg).trans hHeld.2.2.2.1,(Cu.frozen_far ⟨w.heap.size+1,0,none⟩ hq2 hfg).trans hHeld.2.2.2.2.1,(Cu.frozen_far ⟨w.heap.size+1,1,none⟩ hq2 hfg).trans hHeld.2.2.2.2.2⟩)
   refine hK.out _ _ (fun _=>hHeld) (fun _=>?_)
   clear hK K
   (try simp only [Act.put])
   refine qs 7 16 hHeld ?_
   refine qo 8 fun K hK=>?_
   obtain ⟨-,-,u0,u1,u2,u3⟩:=hHeld
   go_simp
   refine hK.out _ _ (fun h=>by cases h) (fun _=>?_)
   clear hK K hHeld
   (try simp only [Act.put,qS])
   refine qd ?_
   have I6:AP w9 (w.heap.size+1) #[.slice none 0 0,.int .i64 0] 78:=(Cu.block _ hq2 hfg).trans ((Below.heap_alloc w1.drew _ _ hw1).trans H1.out)
   have gM:=I6.UW (.slice A9 (1+n) c9) (.int .i64 cd)
   have hT:=Eh w9 (w.heap.size+1) (.slice A9 (1+n) c9) (.int .i64 cd)
   have Mg:Below w.heap.size w w9:=(HB.out.trans (Below.mono (Below.refl w1.heap.size w1).drew HB.out.size)).trans (((Below.refl w.heap.size w1.drew).alloc (by show w.heap.size≤w1.heap.size;omega) _).grown Cu (Nat.le_of_lt hq1) (fun k hk=>by injection hk with hk;dsimp only at hk;omega))
   have r0:=gM.at 0 _ rfl
   have r1:=gM.at 1 _ rfl
   have hin:Aa ((w9.setCell ⟨w.heap.size+1,0,none⟩ (.slice A9 (1+n) c9)).setCell ⟨w.heap.size+1,1,none⟩ (.int .i64 cd)) (C9 w.heap.size ((w9.setCell ⟨w.heap.size+1,0,none⟩ (.slice A9 (1+n) c9)).setCell ⟨w.heap.size+1,1,none⟩ (.int .i64 cd)).heap.size) (.slice A9 (1+n) c9) (b :: bs):=by
    have h1:w9.ownsRow w1.heap.size 3 1 (.slice A9 (1+n) c9) (1+n) (AB encI (b :: bs)):=CZ
    exact (CF.own (enc:=encI) (d:=(0:Int)) Bh (BG h1 hT (fun x hx e=>by have:=(h1.lt x hx).1;omega)) (by omega)).sub (AA _) (fun x hx=>⟨by have:=hx.1;omega,hx.2⟩)
   clear I6 CZ Cu Fh
   generalize (w9.setCell ⟨w.heap.size+1,0,none⟩ (.slice A9 (1+n) c9)).setCell ⟨w.heap.size+1,1,none⟩ (.int .i64 cd)=CW at *
   go_wp2_with fail
   refine bodyPost_ret (v:=.agg #[.slice A9 (1+n) c9,.int .i64 cd]) (by simp [results,Tryz.results63,go_sem,r0,r1]) rfl ⟨⟨_,rfl,?_⟩,Mg.trans ((hT.weak (R':=fun x=>w.heap.size≤x) (fun x e=>by omega)).below (fun x h=>h) Mg.size)⟩
   unfold UB
   dsimp only
   rw [if_neg (by simpa using hcb)]
   have e:1+n=(b :: bs).length:=by rw [List.length_cons,HN.out];omega
   rw [e] at hin ⊢
   exact ⟨A9,c9,rfl,hin⟩
theorem gN (w:World) (b c:Int):Calls Tryz.prog 58 #[.int .i64 b,.int .i64 c] w fun e w'=>(∃ v,e=.returned v∧RF w' (C9 w.heap.size w'.heap.size) v (UB b ⟨[],c⟩))∧Below w.heap.size w w':=by
 have hB:=(Below.refl w.heap.size w).alloc (Nat.le_refl _) (.cells #[.slice none 0 0,.int .i64 0] 78)
 have h0:=AP.new w #[.slice none 0 0,.int .i64 0] 78
 have hz:(w.alloc (.cells #[.slice none 0 0,.int .i64 0] 78)).heap.size=w.heap.size+1:=by simp
 go_enter Tryz.func58,Tryz.ntmps58
 go_upto_region 1 with fail
 generalize w.alloc (.cells #[.slice none 0 0,.int .i64 0] 78)=w1 at *
 have HR:Hid (Calls Tryz.prog 63 #[.int .i64 b,.agg #[.slice none 0 0,.int .i64 c]] w1 fun e w'=>(∃ A n c' k,e=.returned (.agg #[.slice A n c',.int .i64 k])∧RF w' (C9 w1.heap.size w'.heap.size) (.agg #[.slice A n c',.int .i64 k]) (UB b ⟨[],c⟩))∧Below w1.heap.size w1 w') :=
  (YT w1 (fun _=>False) none 0 b ⟨[],c⟩ (fun _ h=>h.elim) CF.F4 (by simp)).mono fun e w' ⟨⟨v,he,hr⟩,hB⟩=>by
   obtain ⟨A,c',rfl,h⟩:=hr
   exact ⟨⟨A,_,c',_,he,A,c',rfl,h⟩,hB⟩
 have hlt:w.heap.size<w1.heap.size:=by omega
 have H0:=qh h0
 have HB:=qh hB
 clear h0 hB hz
 go_wp2_with (go_at_call 63;refine HR.out.mono ?_;rintro e w2 ⟨⟨A,n,c',k,rfl,hrf⟩,hB2⟩;have hb2:=H0.out.below hB2 hlt;have x0:=hb2.at 0 _ rfl;have x1:=hb2.at 1 _ rfl;have z0:=hb2.free 0;have z1:=hb2.free 1;have HB2:=qh hB2;have YU:=qh hrf;have Kg:=qh hb2;clear hB2 hrf hb2)
 have hb3:=Kg.out.UW (.slice A n c') (.int .i64 k)
 have r0:=hb3.at 0 _ rfl
 have r1:=hb3.at 1 _ rfl
 have hT:=Eh w2 w.heap.size (.slice A n c') (.int .i64 k)
 have hsz:=HB2.out.size
 refine bodyPost_ret (v:=.agg #[.slice A n c',.int .i64 k]) (by simp [results,Tryz.results58,go_sem,r0,r1]) rfl ⟨⟨_,rfl,YU.out.keep (fun b hb=>⟨by have:=hb.1;omega,Nat.lt_of_lt_of_le hb.2 hT.size⟩) (Ap hT (fun b hb=>⟨hb.2,fun e=>by have:=hb.1;omega⟩))⟩,(HB.out.trans (HB2.out.mono HB.out.size)).trans ((hT.weak (R':=fun x=>w.heap.size≤x) (fun x e=>by omega)).below (fun x h=>h) (by omega))⟩
end
section
open Go.RowKit
attribute [local go_sem] Oper.semAt_some
set_option maxRecDepth 100000 in
theorem Mx (w:World) (S:Nat→Prop) (A Ab:Option Addr) (c cb:Nat) (way:List Int) (f:K6) (hS:∀ b,S b→b<w.heap.size) (h:BX (Flat fun n:Int=>[.int .i64 n]) 1 0 w S A way) (hf:Aa w S (.slice Ab f.blocks.length cb) f.blocks) (hl:way.length≤1000) (hlf:f.blocks.length≤1000) (hc:f.code≠0) :
 Calls Tryz.prog 169 #[.slice A way.length c,.agg #[.slice Ab f.blocks.length cb,.int .i64 f.code]] w fun e w'=>(∃ v,e=.returned v∧RF w' (Or_ S w.heap.size w'.heap.size) v ⟨way++f.blocks,f.code⟩)∧Below w.heap.size w w':=by
 have GH:=qh (FH hS h)
 have HDR:Hid (∀ k,k<way.length→way.drop k=nth 0 way k :: way.drop (k+1)):=fun k hk=>Eb 0 way k hk
 have zJ:Hid (way.drop way.length=[]):=List.drop_length
 have HD0:Hid (way.drop 0=way):=rfl
 have zK:Hid (∀ k,(way.drop k++f.blocks).length≤2000):=fun k=>by rw [List.length_append,List.length_drop];omega
 obtain ⟨bs,cd⟩:=f
 dsimp only at *
 obtain ⟨h0,h1,hB,hz⟩:=AP.two w #[.slice Ab bs.length cb,.int .i64 cd] #[.slice none 0 0,.int .i64 0] 78 78
 have HFK:Hid (Aa w S (.slice Ab bs.length cb) bs):=hf
 generalize hn:way.length=n at *
 have HN:=qh hn
 clear h hf hn
 go_enter Tryz.func169,Tryz.ntmps169
 go_upto_region 1 with fail
 generalize (w.alloc (.cells #[.slice Ab bs.length cb,.int .i64 cd] 78)).alloc (.cells #[.slice none 0 0,.int .i64 0] 78)=w1 at *
 have hw1:w.heap.size+1<w1.heap.size:=by omega
 have HB:=qh hB
 have H0:=qh h0
 have H1:=qh h1
 have HS:=qh hS
 have hwn:IntKind.i64.wrap ((n:Int)-1)=(n:Int)-1:=by rw [IntKind.wrap_i64];omega
 clear h0 h1 hB hz hS
 go_wp2_with fail
 go_loopw [5] (fun vi wr=>∃ (k:Nat) (A':Option Addr) (m c':Nat),vi=.int .i64 ((k:Int)-1)∧k≤n∧m≤2000∧Hid (m=(way.drop k++bs).length)∧Hid (AP wr w.heap.size #[.slice A' m c',.int .i64 cd] 78)∧Hid (Aa wr (Or_ S w1.heap.size wr.heap.size) (.slice A' m c') (way.drop k++bs))∧Hid (Touch (fun x=>x=w.heap.size) w1 wr)) (fun vi _=>(intOf vi+1).toNat)
 case atStart =>
  refine ⟨n,Ab,bs.length,cb,rfl,by omega,by omega,?_,H0,?_,Touch.refl⟩
  · show _=_;rw [zJ.out];rfl
  · show Aa _ _ _ _
    rw [zJ.out]
    exact HFK.out.keep (AA _) (fun b hb=>.inl hb) (AL HB.out HS.out)
 case round =>
  obtain ⟨k,A',m,c',rfl,hk,hm,HM,HX,HI,HT⟩:=hrel
  have hsz:=HT.out.size
  have hgw:w.heap.size<wr.heap.size:=by omega
  have hgw1:w.heap.size+1<wr.heap.size:=by omega
  cases k with
  | zero =>
   have hb1:AP wr (w.heap.size+1) #[.slice none 0 0,.int .i64 0] 78:=(HT.out.block hw1 (by omega)).trans H1.out
   have x0:=HX.out.at 0 _ rfl
   have x1:=HX.out.at 1 _ rfl
   have y0:=hb1.at 0 _ rfl
   have y1:=hb1.at 1 _ rfl
   have z0:=hb1.free 0
   have z1:=hb1.free 1
   have hb2:=hb1.UW (.slice A' m c') (.int .i64 cd)
   have r0:=hb2.at 0 _ rfl
   have r1:=hb2.at 1 _ rfl
   have hT:=Eh wr (w.heap.size+1) (.slice A' m c') (.int .i64 cd)
   have HT2:=qh hT
   have R0:=qh r0
   have R1:=qh r1
   clear hb1 hb2 hT r0 r1
   go_wp2_with fail
   generalize (wr.setCell ⟨w.heap.size+1,0,none⟩ (.slice A' m c')).setCell ⟨w.heap.size+1,1,none⟩ (.int .i64 cd)=w5 at *
   have r0:=R0.out
   have r1:=R1.out
   refine bodyPost_ret (v:=.agg #[.slice A' m c',.int .i64 cd]) (by simp [results,Tryz.results169,go_sem,r0,r1]) rfl ⟨⟨_,rfl,?_⟩,HB.out.trans (((HT.out.weak (R':=fun x=>w.heap.size≤x) (fun x e=>by omega)).trans (HT2.out.weak (R':=fun x=>w.heap.size≤x) (fun x e=>by omega))).below (fun x h=>h) (by omega))⟩
   have hi:=HI.out
   rw [HD0.out] at hi
   have hm2:m=(way++bs).length:=by have:=HM.out;rwa [HD0.out] at this
   rw [hm2] at hi ⊢
   refine ⟨A',c',rfl,hi.keep (AA _) (fun b hb=>hb.imp id (fun h=>⟨by omega,Nat.lt_of_lt_of_le h.2 HT2.out.size⟩)) (Ap HT2.out (fun b hb=>?_))⟩
   rcases hb with h|h
   · have:=HS.out b h;exact ⟨by omega,by omega⟩
   · exact ⟨h.2,by omega⟩
  | succ k =>
   rw [show (((k+1:Nat):Int)-1)=(k:Int) by omega]
   obtain ⟨b,off,rfl,hb,hcl⟩:=GH.out k (by omega)
   have q0:=hcl w1 HB.out k (by omega)
   have q0:=(Ap (S:=fun x=>x=b) HT.out (fun x e=>by subst e;exact ⟨by omega,by omega⟩) b _ rfl).trans q0
   have hdr:=HDR.out k (by omega)
   have hld:=zK.out k
   generalize nth 0 way k=p at *
   have x0:=HX.out.at 0 _ rfl
   have x1:=HX.out.at 1 _ rfl
   have z0:=HX.out.free 0
   have z1:=HX.out.free 1
   have hbw:b<wr.heap.size:=by omega
   have hkn:(k:Int)<(n:Int):=by omega
   have hwk:IntKind.i64.wrap ((k:Int)-1)=(k:Int)-1:=by rw [IntKind.wrap_i64];omega
   have HAT:Hid (∀ wq,Below wr.heap.size wr wq→Calls Tryz.prog 63 #[.int .i64 p,.agg #[.slice A' m c',.int .i64 cd]] wq fun e w'=>(∃ A2 c2,e=.returned (.agg #[.slice A2 (m+1) c2,.int .i64 cd])∧Aa w' (C9 wq.heap.size w'.heap.size) (.slice A2 (m+1) c2) (p :: (way.drop (k+1)++bs)))∧Below wq.heap.size wq w'):=fun wq gP=>by
    have hin:=HI.out
    rw [HM.out] at hin ⊢
    refine (YT wq (Or_ S w1.heap.size wr.heap.size) A' c' p ⟨way.drop (k+1)++bs,cd⟩ (fun b hb=>?_) (hin.keep (AA _) (fun _ h=>h) (AL gP (fun b hb=>?_))) (by have:=zK.out (k+1);dsimp only;omega)).mono fun e w' ⟨⟨v,he,hr⟩,hB⟩=>?_
    · have:=gP.size
      rcases hb with h|h
      · have:=HS.out b h;omega
      · omega
    · rcases hb with h|h
      · have:=HS.out b h;omega
      · exact h.2
    · obtain ⟨A2,c2,rfl,h2⟩:=hr
      unfold UB at *
      rw [if_neg (by exact hc)] at *
      exact ⟨⟨A2,c2,he,h2⟩,hB⟩
   clear hcl
   go_upto_region 4 with fail
   refine AF (T:=fun j=>j==6) (S:=fun w'=>w'.cell? ⟨w.heap.size,0,none⟩=some (.slice A' m c')∧w'.cell? ⟨w.heap.size,1,none⟩=some (.int .i64 cd)∧w'.cell? ⟨b,off+k,none⟩=some (.int .i64 p)∧w'.frozen? ⟨w.heap.size,0,none⟩=false∧w'.frozen? ⟨w.heap.size,1,none⟩=false) (by kernel_rfl) (⟨x0,x1,q0,z0,z1⟩) (fun hHeld=>?_)
   refine qs 0 13 hHeld ?_
   refine qs 1 14 hHeld ?_
   refine qs 2 15 hHeld ?_
   refine qf 3 16 rfl rfl hHeld (by intro w hSw;have q0:=hSw.2.2.1;go_simp;(try with_reducible rfl)) ?_
   refine qf 4 17 rfl rfl hHeld (by intro w hSw;have x0:=hSw.1;have x1:=hSw.2.1;go_simp;(try with_reducible rfl)) ?_
   refine qo 5 fun K hK=>?_
   go_simp
   refine (HAT.out wr.drew (Below.refl _ _).drew).mono ?_
   rintro e Ch ⟨⟨A2,c2,rfl,hin2⟩,Fg⟩
   have Wp:=qh hin2
   have Db:=qh Fg
   clear hin2
   have hHeld:=(show World.cell? Ch ⟨w.heap.size,0,none⟩=some (.slice A' m c')∧World.cell? Ch ⟨w.heap.size,1,none⟩=some (.int .i64 cd)∧World.cell? Ch ⟨b,off+k,none⟩=some (.int .i64 p)∧World.frozen? Ch ⟨w.heap.size,0,none⟩=false∧World.frozen? Ch ⟨w.heap.size,1,none⟩=false from ⟨AQ Fg hgw x0,AQ Fg hgw x1,AQ Fg hbw q0,(Fg.frozen (p:=⟨w.heap.size,0,none⟩) hgw).trans z0,(Fg.frozen (p:=⟨w.heap.size,1,none⟩) hgw).trans z1⟩)
   refine hK.out _ _ (fun _=>hHeld) (fun _=>?_)
   clear hK K
   (try simp only [Act.put,qS])
   refine qo 6 fun K hK=>?_
   obtain ⟨u0,u1,-,u3,u4⟩:=hHeld
   go_simp
   refine hK.out _ _ (fun h=>by cases h) (fun _=>?_)
   clear hK K hHeld
   (try simp only [Act.put,qS])
   refine qd ?_
   have mH:AP Ch w.heap.size #[.slice A' m c',.int .i64 cd] 78:=HX.out.below ((Below.refl wr.heap.size wr).drew.trans Db.out) hgw
   have Kg:=qh (mH.UW (.slice A2 (m+1) c2) (.int .i64 cd))
   have hT:=Eh Ch w.heap.size (.slice A2 (m+1) c2) (.int .i64 cd)
   have HT2:Hid (Touch (fun x=>x=w.heap.size) w1 ((Ch.setCell ⟨w.heap.size,0,none⟩ (.slice A2 (m+1) c2)).setCell ⟨w.heap.size,1,none⟩ (.int .i64 cd))):=(HT.out.trans (Touch.of_below ((Below.refl wr.heap.size wr).drew.trans Db.out))).trans hT
   have HI2:Hid (Aa ((Ch.setCell ⟨w.heap.size,0,none⟩ (.slice A2 (m+1) c2)).setCell ⟨w.heap.size,1,none⟩ (.int .i64 cd)) (Or_ S w1.heap.size ((Ch.setCell ⟨w.heap.size,0,none⟩ (.slice A2 (m+1) c2)).setCell ⟨w.heap.size,1,none⟩ (.int .i64 cd)).heap.size) (.slice A2 (m+1) c2) (way.drop k++bs)):=by
    show Aa _ _ _ _
    rw [hdr]
    exact Wp.out.keep (AA _) (fun b hb=>.inr ⟨Nat.le_trans hsz hb.1,Nat.lt_of_lt_of_le hb.2 hT.size⟩) (Ap hT (fun b hb=>⟨hb.2,by have h1:wr.heap.size≤b:=hb.1;omega⟩))
   have HM2:Hid (m+1=(way.drop k++bs).length):=by
    show _=_
    rw [hdr,HM.out]
    rfl
   have hm2:m+1≤2000:=by rw [HM2.out];exact hld
   clear mH hT hdr hld
   generalize (Ch.setCell ⟨w.heap.size,0,none⟩ (.slice A2 (m+1) c2)).setCell ⟨w.heap.size,1,none⟩ (.int .i64 cd)=IY at *
   go_wp2_with fail
   go_roundw
   case rel=>exact ⟨k,A2,m+1,c2,rfl,by omega,hm2,HM2,Kg,HI2,HT2⟩
   case measure=>simp [intOf]
end
section
open Go.RowKit
theorem make1 (w:World):(Instr.makeSlice 29 (.int .i64 1) (.int .i64 1)).run Tryz.prog w=.ok (.slice (some ⟨w.heap.size,0,none⟩) 1 1) (w.alloc (.cells #[.int .i64 0] 3)):=by
 have h:=run_make_row' (P:=Tryz.prog) 29 3 (.int .i64 0) 8 Tryz.underlying29 (by kernel_rfl) rfl .i64 .i64 1 (by omega) (by omega) w
 have hmz:(madeCells #[Value.int .i64 0] 1)=#[.int .i64 0]:=by kernel_rfl
 rw [hmz] at h
 exact h
theorem over0 (w:World) {m:Int} (h:m=6∨m=9∨m=12∨m=18):Calls Tryz.prog 216 #[.int .i64 0,.int .i64 m] w fun e w'=>e=.returned (.int .i64 1)∧w'=w:=by
 rcases h with rfl|rfl|rfl|rfl <;> (go_enter Tryz.func216,Tryz.ntmps216;go_wp2;go_ret;exact ⟨rfl,rfl⟩)
theorem most_is {t:Int} (h1:1≤t) (h5:t≤5):(((BZ t true:Nat):Int)=6∨((BZ t true:Nat):Int)=9∨((BZ t true:Nat):Int)=12∨((BZ t true:Nat):Int)=18)∧((BZ t false:Nat):Int)=18:=by
 rcases O8 (t:=t) (by omega) (by omega) with rfl|rfl|rfl|rfl|rfl <;> decide
set_option maxRecDepth 100000 in
theorem sizes0 (w:World) (t:Int) (h1:1≤t) (h5:t≤5):Calls Tryz.prog 218 #[.int .i64 0,.int .i64 (BZ t true:Nat)] w fun e w'=>(∃ g,e=.returned (.slice (some ⟨g,0,none⟩) 1 1)∧g<w'.heap.size∧w'.cell? ⟨g,0,none⟩=some (.int .i64 0))∧Below w.heap.size w w':=by
 have hmk:=make1 w
 have HOV:=qh (fun w=>over0 w (most_is h1 h5).1)
 have hm:=(most_is h1 h5).1
 generalize ((BZ t true:Nat):Int)=m at *
 have h6:6≤m:=by omega
 have h18:m≤18:=by omega
 clear h1 h5 hm
 go_enter Tryz.func218,Tryz.ntmps218
 go_upto_region 5 with (go_at_call 216;(with_reducible refine (HOV.out _).mono ?_);rintro e w2 ⟨rfl,hw⟩;rw [hw];clear hw w2)
 have hbx:=AP.new w #[.int .i64 0] 3
 have hBx:Below w.heap.size w (w.alloc (.cells #[.int .i64 0] 3)):=(Below.refl _ _).alloc (Nat.le_refl _) _
 generalize w.alloc (.cells #[.int .i64 0] 3)=w1 at *
 obtain ⟨g,hg⟩:∃ q,w.heap.size=q:=⟨_,rfl⟩
 have Ux:Hid (w.heap.size≤g):=by show _≤_;omega
 have HB1:=qh hBx
 rw [hg] at hbx ⊢
 have DU:=qh hbx
 clear hbx hBx hg hmk
 go_wp2_with fail
 go_loopw [25] (fun vi wr=>∃ k:Nat,vi=.int .i64 k∧k≤1∧Hid (AP wr g #[.int .i64 0] 3)∧Hid (Below w.heap.size w wr)) (fun vi _=>1-(intOf vi).toNat)
 case atStart=>exact ⟨0,rfl,by omega,DU,HB1⟩
 case round =>
  obtain ⟨k,rfl,hk,Cy,HLr⟩:=hrel
  rcases (show k=0∨k=1 by omega) with hk0|hk1
  · obtain rfl:=hk0
    have x0:wr.cell? ⟨g,0,none⟩=some (.int .i64 0):=Cy.out.at 0 _ rfl
    have f0:=Cy.out.free 0
    have hlt:=Cy.out.lt
    go_wp2_with fail
    have HB2:Hid (AP (wr.setCell ⟨g,0,none⟩ (.int .i64 0)) g #[.int .i64 0] 3):=Cy.out.set 0 _
    have HL2:Hid (Below w.heap.size w (wr.setCell ⟨g,0,none⟩ (.int .i64 0))):=HLr.out.trans ((Touch.Dc (R:=fun x=>x=g) (p:=⟨g,0,none⟩) rfl).below (fun x e=>by rw [e];exact Ux.out) HLr.out.size)
    go_roundw
    case rel=>exact ⟨1,by go_num,by omega,HB2,HL2⟩
    case measure=>simp [intOf]
  · obtain rfl:=hk1
    go_wp2_with fail
    refine bodyPost_ret (v:=.slice (some ⟨g,0,none⟩) 1 1) (by simp [results,Tryz.results218,go_sem]) rfl ⟨⟨g,rfl,Cy.out.lt,Cy.out.at 0 _ rfl⟩,HLr.out⟩
set_option maxRecDepth 100000 in
theorem levels0 (w:World) (t:Int) (h1:1≤t) (h5:t≤5):Calls Tryz.prog 179 #[.int .i64 t,.int .i64 0] w fun e w'=>(∃ g,e=.returned (.slice (some ⟨g,0,none⟩) 1 1)∧g<w'.heap.size∧w'.cell? ⟨g,0,none⟩=some (.int .i64 1))∧Below w.heap.size w w':=by
 have HOV:=qh (fun w=>over0 w (most_is h1 h5).1)
 have zL:=qh (fun w=>Ho w t true)
 have HMB:=qh (fun w=>Ho w t false)
 rw [(most_is h1 h5).2] at HMB
 have hm:=(most_is h1 h5).1
 generalize ((BZ t true:Nat):Int)=m at *
 have h6:6≤m:=by omega
 have h18:m≤18:=by omega
 clear h1 h5 hm
 go_enter Tryz.func179,Tryz.ntmps179
 go_wp2_with (first
  | (go_at_call 197;(with_reducible refine (zL.out _).mono ?_);rintro e w2 ⟨rfl,hw⟩;rw [hw];clear hw w2)
  | (go_at_call 197;(with_reducible refine (HMB.out _).mono ?_);rintro e w2 ⟨rfl,hw⟩;rw [hw];clear hw w2)
  | (go_at_call 216;(with_reducible refine (HOV.out _).mono ?_);rintro e w2 ⟨rfl,hw⟩;rw [hw];clear hw w2))
 have hbx:=AP.new w #[.int .i64 1] 3
 have hBx:Below w.heap.size w (w.alloc (.cells #[.int .i64 1] 3)):=(Below.refl _ _).alloc (Nat.le_refl _) _
 generalize w.alloc (.cells #[.int .i64 1] 3)=w1 at *
 obtain ⟨g,hg⟩:∃ q,w.heap.size=q:=⟨_,rfl⟩
 have HB1:=qh hBx
 rw [hg] at hbx ⊢
 have DU:=qh hbx
 have x0:w1.cell? ⟨g,0,none⟩=some (.int .i64 1):=hbx.at 0 _ rfl
 have HX0:=qh x0
 clear hbx hBx hg
 go_loopw [7] (fun vi wr=>vi=.slice (some ⟨g,0,none⟩) 1 1∧wr=w1) (fun vi _=>1)
 case atStart=>exact ⟨rfl,rfl⟩
 case round =>
  obtain ⟨rfl,hwr⟩:=hrel
  rw [hwr]
  clear hwr wr
  go_wp2_with fail
  refine bodyPost_ret (v:=.slice (some ⟨g,0,none⟩) 1 1) (by simp [results,Tryz.results179,go_sem]) rfl ⟨⟨g,rfl,DU.out.lt,HX0.out⟩,HB1.out⟩
set_option maxRecDepth 100000 in
theorem nodes0 (w:World) (t:Int) (h1:1≤t) (h5:t≤5):Calls Tryz.prog 117 #[.int .i64 t,.int .i64 0] w fun e w'=>e=.returned (.int .i64 1)∧Below w.heap.size w w':=by
 have qB:=qh (levels0 w t h1 h5)
 clear h1 h5
 go_enter Tryz.func117,Tryz.ntmps117
 go_wp2_with (go_at_call 179;(with_reducible refine qB.out.mono ?_);rintro e w2 ⟨⟨g,rfl,hlt,hc⟩,hB⟩;have HC:=qh hc;have HB:=qh hB;clear hlt hc hB)
 rename World=>w2
 go_loopw [5,12] (fun vs vi wr=>(∃ k:Nat,k≤1∧vi=.int .i64 k∧vs=.int .i64 k)∧wr=w2) (fun _ vi _=>1-(intOf vi).toNat)
 case atStart=>exact ⟨⟨0,by omega,rfl,rfl⟩,rfl⟩
 case round =>
  obtain ⟨⟨k,hk,rfl,rfl⟩,hwr⟩:=hrel
  rw [hwr]
  clear hwr wr
  have x0:=HC.out
  rcases (show k=0∨k=1 by omega) with hk0|hk1
  · obtain rfl:=hk0
    go_wp2_with fail
    go_roundw
    case rel=>exact ⟨⟨1,by omega,by go_num,by go_num⟩,by trivial⟩
    case measure=>simp [intOf]
  · obtain rfl:=hk1
    go_wp2_with fail
    refine bodyPost_ret (v:=.int .i64 1) (by simp [results,Tryz.results117,go_sem]) rfl ⟨rfl,HB.out⟩
end
end Go.Proofs.YtpenklpdjpkigaaGreat
