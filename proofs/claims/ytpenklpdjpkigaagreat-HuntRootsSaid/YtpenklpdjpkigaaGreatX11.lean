/- A part of the proof: RScanM, RScanQ, WChunk. -/
import Derived.Test.YtpenklpdjpkigaaGreatY5
import Derived.Test.YtpenklpdjpkigaaGreatX7
import Derived.Test.YtpenklpdjpkigaaGreatY1
import Derived.Test.YtpenklpdjpkigaaGreatY3
import Derived.Test.YtpenklpdjpkigaaGreatY2
set_option maxHeartbeats 6400000
set_option linter.unusedVariables false
set_option linter.unusedSimpArgs false
namespace Go.Proofs.YtpenklpdjpkigaaGreat
section
open Go.RowKit
theorem Ps:(Tryz.prog.info? 285).map (fun i=>(i.zero,i.size,i.bytes))=some (some (.agg #[.int .i64 0,.int .i64 0,.int .i64 0,.slice none 0 0,.int .i64 0]),5,56):=by kernel_rfl
theorem Pv:(Tryz.prog.info? 78).map (fun i=>(i.zero,i.size,i.bytes))=some (some (.agg #[.slice none 0 0,.int .i64 0]),2,32):=by kernel_rfl
theorem Pw (A:Option Addr) (n c:Nat) (k:Int):∀ u∈[Value.slice A n c,Value.int .i64 k],u.oneCell'=true:=by
 intro u hu
 simp at hu
 rcases hu with rfl|rfl <;> rfl
def Gh (w:World) (g:Nat):Int:=match w.cell? ⟨g,3,none⟩ with|some (.int _ n)=>n|_=>0
def EZ (w0 w:World) (v:Value) (st:WS):Prop :=
 ∃ Ae ce Ab cb Af cf xs,v=.agg #[.slice Ae st.AO.length ce,.slice Ab st.AV.length cb,.int .i64 st.deep,.int .i64 st.looked,.slice Af st.AR.length cf] ∧
  w.ownsRow w0.heap.size 108 3 (.slice Ae st.AO.length ce) st.AO.length (AB Cq st.AO)∧w.ownsRow w0.heap.size 3 1 (.slice Ab st.AV.length cb) st.AV.length (AB encI st.AV) ∧
  w.ownsRow w0.heap.size 78 2 (.slice Af st.AR.length cf) st.AR.length xs∧Bj ZQ 2 Qc w (C9 w0.heap.size w.heap.size) st.AR xs
def TQ (fuel:Int) (wait:List NP) (st:WS):Prop:=st.Ju=false∧0≤st.looked∧(st.looked≤fuel∨st.looked=0)∧((Ii st+wait.length:Nat):Int)≤64*st.looked+1∧∀ v∈wait,v.way.length≤16∧(v.fault=0→Cn v.lo v.hi=true)
def Yh (w wr:World) (g:Nat) (bs:List UInt8) (tree fuel:Int) (F:WS) (Aq:Option Addr) (n cq:Nat) (st:WS) (wait:List NP) (Ae:Option Addr) (ce:Nat) (Ab:Option Addr) (cb:Nat) (Af:Option Addr) (cf:Nat) (xs:List Value):Prop :=
 n=wait.length∧CF Vs 5 Jy wr (Hz wr g g st Ae ce Ab cb Af cf) (.slice Aq n cq) wait∧RQ wr g g st Ae ce Ab cb Af cf xs∧AP wr w.heap.size #[.slice none 0 0,.slice none 0 0,.int .i64 0,.int .i64 0,.slice none 0 0] 145∧Below w.heap.size w wr∧EO bs tree fuel wait st=F∧TQ fuel wait st
theorem JB {w:World} {g:Nat} {n:Int} (h:w.cell? ⟨g,3,none⟩=some (.int .i64 n)):Gh w g=n:=by unfold Gh;rw [h]
section
variable {w wr w' wF:World} {g:Nat} {bs:List UInt8} {tree fuel:Int} {F st st':WS} {A2:Option Addr} {m c2:Nat} {r:List NP} {Ae Ab Af Ae' Ab' Af':Option Addr} {ce cb cf ce' cb' cf':Nat} {xs xs':List Value}
theorem RQ.far {gb:Nat} {cs:Array Value} {T:TypeId} (h:RQ wr g g st Ae ce Ab cb Af cf xs) (hT:Touch (Fw g st Ae ce Ab cb Af cf) wr wF) (hb:gb<g) (hx:AP wr gb cs T):AP wF gb cs T :=
 (hT.block hx.lt (fun e=>by have:=(h.ZR gb e).1;omega)).trans hx
theorem RQ.Mq {gb:Nat} {cs:Array Value} {T:TypeId} (hT:Touch (Fw g st Ae ce Ab cb Af cf) wr wF) (hn:¬ Fw g st Ae ce Ab cb Af cf gb) (hx:AP wr gb cs T):AP wF gb cs T:=(hT.block hx.lt hn).trans hx
theorem Yh.next (hb0:AP wr w.heap.size #[.slice none 0 0,.slice none 0 0,.int .i64 0,.int .i64 0,.slice none 0 0] 145) (hBw:Below w.heap.size w wr) (hgw:w.heap.size<g) (hrq:RQ wr g g st Ae ce Ab cb Af cf xs) (hrow:BX Vs 5 Jy wr (Hz wr g g st Ae ce Ab cb Af cf) A2 r) (hm:r.length=m) (hmc:m≤c2)
 (hT:Touch (Fw g st Ae ce Ab cb Af cf) wr wF) (hR:∀ x,Fw g st' Ae' ce' Ab' cb' Af' cf' x→Fw g st Ae ce Ab cb Af cf x∨wr.heap.size≤x) (AC7:RQ wF g g st' Ae' ce' Ab' cb' Af' cf' xs') (hwf:EO bs tree fuel r st'=F) (hok:TQ fuel r st') :
 Yh w wF g bs tree fuel F A2 m c2 st' r Ae' ce' Ab' cb' Af' cf' xs':=by
 obtain ⟨k1,k2⟩:=IC (base:=g) hT hR
 have hz:=hb0.lt
 refine ⟨hm.symm,⟨A2,c2,by rw [hm],by rw [hm];exact hmc,hrow.keep Ei k1 k2⟩,AC7,hrq.far hT hgw hb0,?_,hwf,hok⟩
 exact hBw.trans ((hT.weak (R':=fun x=>w.heap.size≤x) (fun x e=>by have:=(hrq.ZR x e).1;omega)).below (fun x h=>h) (by omega))
theorem RQ.ul {wc w9:World} {f:K6} {cs:List Value} {A:Option Addr} {c:Nat} (h:RQ wr g g st Ae ce Ab cb Af cf xs) (hB:Below wr.heap.size wr wc) (hl:cs.length=2) (hown:w9.ownsRow g 78 2 (.slice A (st.AR.length+1) c) (st.AR.length+1) (xs++cs)) (hg:wc.grownBy w9 (Value.slice Af st.AR.length cf).ownBlock)
 (hat:∀ y,(Value.slice A (st.AR.length+1) c).ownBlock=some y→(Value.slice Af st.AR.length cf).ownBlock=some y∨wc.heap.size≤y) (hv:ZQ wc (Hz wc g g st Ae ce Ab cb Af cf) cs f) :
 RQ (w9.setCell ⟨g,4,none⟩ (.slice A (st.AR.length+1) c)) g g (Ad st f) Ae ce Ab cb A c (xs++cs)∧Touch (Fw g st Ae ce Ab cb Af cf) wr (w9.setCell ⟨g,4,none⟩ (.slice A (st.AR.length+1) c))∧∀ x,Fw g (Ad st f) Ae ce Ab cb A c x→Fw g st Ae ce Ab cb Af cf x∨wr.heap.size≤x:=by
 obtain ⟨h1,h2,h3⟩:=(h.below hB).flt hl hown hg hat hv
 exact ⟨h1,(Touch.of_below hB).trans h2,fun x hx=>(h3 x hx).imp id (fun e=>Nat.le_trans hB.size e)⟩
theorem DZ (h:RQ wr g g st Ae ce Ab cb Af cf xs) (hB:Below wr.heap.size wr w'):(∀ b,Hz wr g g st Ae ce Ab cb Af cf b→Hz w' g g st Ae ce Ab cb Af cf b)∧CS (Hz wr g g st Ae ce Ab cb Af cf) wr w'∧∀ b,wr.heap.size≤b→b<w'.heap.size→Hz w' g g st Ae ce Ab cb Af cf b:=by
 obtain ⟨k1,k2⟩:=IC (base:=g) (g:=g) (ve:=.slice Ae st.AO.length ce) (vb:=.slice Ab st.AV.length cb) (vf:=.slice Af st.AR.length cf) (Touch.of_below hB) (fun x h=>.inl h)
 exact ⟨k1,k2,fun b h1 h2=>⟨by have:=h.box.lt;omega,h2,fun e=>by have:=(h.ZR b e).2;omega⟩⟩
theorem iQ {f:K6} (hd:st.Ju=false) (h0:0≤st.looked) (hf:st.looked≤fuel∨st.looked=0) (hs:(Ii st:Int)+r.length≤64*st.looked) (ha:∀ v∈r,v.way.length≤16∧(v.fault=0→Cn v.lo v.hi=true)):TQ fuel r (Ad st f):=by
 have e:Ii (Ad st f)=Ii st+1:=by simp [Ii,Ad];omega
 refine ⟨hd,h0,hf,?_,ha⟩
 rw [e]
 show ((Ii st+1+r.length:Nat):Int)≤64*st.looked+1
 omega
theorem RQ.res (h:RQ wr g g st Ae ce Ab cb Af cf xs) (hb0:AP wr w.heap.size #[.slice none 0 0,.slice none 0 0,.int .i64 0,.int .i64 0,.slice none 0 0] 145) (hBw:Below w.heap.size w wr) (hgw:w.heap.size<g) :
 ∃ wF,((((wr.setCell ⟨w.heap.size,0,none⟩ (.slice Ae st.AO.length ce)).setCell ⟨w.heap.size,1,none⟩ (.slice Ab st.AV.length cb)).setCell ⟨w.heap.size,2,none⟩ (.int .i64 st.deep)).setCell ⟨w.heap.size,3,none⟩ (.int .i64 st.looked)).setCell ⟨w.heap.size,4,none⟩ (.slice Af st.AR.length cf)=wF ∧
  (wF.cell? ⟨w.heap.size,0,none⟩=some (.slice Ae st.AO.length ce)∧wF.cell? ⟨w.heap.size,1,none⟩=some (.slice Ab st.AV.length cb)∧wF.cell? ⟨w.heap.size,2,none⟩=some (.int .i64 st.deep)∧wF.cell? ⟨w.heap.size,3,none⟩=some (.int .i64 st.looked)∧wF.cell? ⟨w.heap.size,4,none⟩=some (.slice Af st.AR.length cf)) ∧
  EZ w wF (.agg #[.slice Ae st.AO.length ce,.slice Ab st.AV.length cb,.int .i64 st.deep,.int .i64 st.looked,.slice Af st.AR.length cf]) st∧Below w.heap.size w wF:=by
 have hb5:=((((hb0.set 0 (.slice Ae st.AO.length ce)).set 1 (.slice Ab st.AV.length cb)).set 2 (.int .i64 st.deep)).set 3 (.int .i64 st.looked)).set 4 (.slice Af st.AR.length cf)
 have hT:=Em wr w.heap.size (.slice Ae st.AO.length ce) (.slice Ab st.AV.length cb) (.int .i64 st.deep) (.int .i64 st.looked) (.slice Af st.AR.length cf)
 have hz:=hb0.lt
 refine ⟨_,rfl,⟨hb5.at 0 _ rfl,hb5.at 1 _ rfl,hb5.at 2 _ rfl,hb5.at 3 _ rfl,hb5.at 4 _ rfl⟩,⟨Ae,ce,Ab,cb,Af,cf,xs,rfl,?_,?_,?_,?_⟩,hBw.trans ((hT.weak (R':=fun x=>w.heap.size≤x) (fun x e=>by omega)).below (fun x h=>h) (by omega))⟩
 · exact (BG h.AO hT (fun x hx e=>by have:=(h.AO.lt x hx).1;omega)).mono (by omega)
 · exact (BG h.AV hT (fun x hx e=>by have:=(h.AV.lt x hx).1;omega)).mono (by omega)
 · exact (BG h.AR hT (fun x hx e=>by have:=(h.AR.lt x hx).1;omega)).mono (by omega)
 · exact h.errs.keep DF (fun b hb=>⟨by have:=hb.1;omega,Nat.lt_of_lt_of_le hb.2.1 hT.size⟩) (Ap hT (fun b hb=>⟨hb.2.1,fun e=>by have:=hb.1;omega⟩))
theorem RQ.nH (h:RQ wr g g st Ae ce Ab cb Af cf xs):∃ st1:WS,{ st with looked:=st.looked+1 }=st1∧st1.deep=st.deep∧st1.looked=st.looked+1∧Ii st1=Ii st∧st1.Ju=st.Ju∧RQ (wr.setCell ⟨g,3,none⟩ (.int .i64 (st.looked+1))) g g st1 Ae ce Ab cb Af cf xs∧Touch (Fw g st Ae ce Ab cb Af cf) wr (wr.setCell ⟨g,3,none⟩ (.int .i64 (st.looked+1)))∧∀ x,Fw g st1 Ae ce Ab cb Af cf x→Fw g st Ae ce Ab cb Af cf x∨wr.heap.size≤x :=
 ⟨_,rfl,rfl,rfl,rfl,rfl,h.WB 3 (.int .i64 (st.looked+1)) { st with looked:=st.looked+1 } rfl rfl rfl rfl,Touch.Dc (.inl rfl),fun x hx=>.inl hx⟩
theorem RQ.carry {gv:Nat} {cs:Array Value} {T:TypeId} {Av:Option Addr} {nw cv:Nat} {way:List Int} (h:RQ wr g g st Ae ce Ab cb Af cf xs) (hT:Touch (Fw g st Ae ce Ab cb Af cf) wr wF) (hR:∀ x,Fw g st' Ae' ce' Ab' cb' Af' cf' x→Fw g st Ae ce Ab cb Af cf x∨wr.heap.size≤x)
 (hv:AP wr gv cs T) (hn:¬ Fw g st Ae ce Ab cb Af cf gv) (hrow:BX Vs 5 Jy wr (Hz wr g g st Ae ce Ab cb Af cf) A2 r) (Qq:Aa wr (Hz wr g g st Ae ce Ab cb Af cf) (.slice Av nw cv) way)
 (hb0:AP wr w.heap.size #[.slice none 0 0,.slice none 0 0,.int .i64 0,.int .i64 0,.slice none 0 0] 145) (hBw:Below w.heap.size w wr) (hgw:w.heap.size<g) :
 Hid (AP wF gv cs T)∧Hid (¬ Fw g st' Ae' ce' Ab' cb' Af' cf' gv)∧Hid (BX Vs 5 Jy wF (Hz wF g g st' Ae' ce' Ab' cb' Af' cf') A2 r)∧Hid (Aa wF (Hz wF g g st' Ae' ce' Ab' cb' Af' cf') (.slice Av nw cv) way) ∧
  Hid (AP wF w.heap.size #[.slice none 0 0,.slice none 0 0,.int .i64 0,.int .i64 0,.slice none 0 0] 145)∧Hid (Below w.heap.size w wF):=by
 obtain ⟨k1,k2⟩:=IC (base:=g) hT hR
 have hz:=hb0.lt
 exact ⟨RQ.Mq hT hn hv,fun e=>(hR gv e).elim hn (fun e=>by have:=hv.lt;omega),hrow.keep Ei k1 k2,Qq.keep (AA _) k1 k2,h.far hT hgw hb0,hBw.trans ((hT.weak (R':=fun x=>w.heap.size≤x) (fun x e=>by have:=(h.ZR x e).1;omega)).below (fun x h=>h) (by omega))⟩
theorem RQ.iR (h:RQ wr g g st Ae ce Ab cb Af cf xs) (hB:Below wr.heap.size wr wF):Touch (Fw g st Ae ce Ab cb Af cf) wr wF∧∀ x,Fw g st Ae ce Ab cb Af cf x→Fw g st Ae ce Ab cb Af cf x∨wr.heap.size≤x:=⟨Touch.of_below hB,fun x h=>.inl h⟩
theorem RQ.sees {S:Nat→Prop} (h:RQ wr g g st Ae ce Ab cb Af cf xs) (hS:∀ b,S b→b<w.heap.size) (hgw:w.heap.size<g):∀ b,S b∨Hz wr g g st Ae ce Ab cb Af cf b→b<wr.heap.size:=fun b hb=>hb.elim (fun e=>by have:=hS b e;have:=h.box.lt;omega) (fun e=>e.2.1)
end
def KY (w0 w:World) (g:Nat) (st st':WS) (Ae:Option Addr) (ce:Nat) (Ab:Option Addr) (cb:Nat) (Af:Option Addr) (cf:Nat) (xs:List Value):Prop :=
 ∃ Ae' ce',RQ w g g st' Ae' ce' Ab cb Af cf xs∧Touch (Fw g st Ae ce Ab cb Af cf) w0 w∧∀ y,Fw g st' Ae' ce' Ab cb Af cf y→Fw g st Ae ce Ab cb Af cf y∨w0.heap.size≤y
theorem KY.step {w0 wr wc w9:World} {g:Nat} {st st':WS} {Ae Ae' Ab Af A:Option Addr} {ce ce' cb cf c:Nat} {xs:List Value} {x:Kq} (h:RQ wr g g st' Ae' ce' Ab cb Af cf xs) (hT:Touch (Fw g st Ae ce Ab cb Af cf) w0 wr) (hR:∀ y,Fw g st' Ae' ce' Ab cb Af cf y→Fw g st Ae ce Ab cb Af cf y∨w0.heap.size≤y) (hB:Below wr.heap.size wr wc)
 (hown:w9.ownsRow g 108 3 (.slice A (st'.AO.length+1) c) (st'.AO.length+1) (AB Cq (st'.AO++[x]))) (hg:wc.grownBy w9 (Value.slice Ae' st'.AO.length ce').ownBlock) (hat:∀ y,(Value.slice A (st'.AO.length+1) c).ownBlock=some y→(Value.slice Ae' st'.AO.length ce').ownBlock=some y∨wc.heap.size≤y) :
 KY w0 (w9.setCell ⟨g,0,none⟩ (.slice A (st'.AO.length+1) c)) g st { st' with AO:=st'.AO++[x] } Ae ce Ab cb Af cf xs:=by
 obtain ⟨h1,h2,h3⟩:=(h.below hB).ent hown hg hat
 have hs:=hT.size
 have hs2:=hB.size
 exact ⟨A,c,h1,hT.trans' ((Touch.of_below hB).trans h2) hR,fun y hy=>(h3 y hy).elim (hR y) (fun e=>.inr (by omega))⟩
theorem iT (way:List Int) (no:Int) {l:List (Int × Int)} {vs:List (List UInt8)} (i:Nat) (h1:i<l.length) (h2:i<vs.length):nth Jy ((l.zip vs).map (Kc way no)) i=Kc way no (nth (0,0) l i,nth [] vs i)∧i<((l.zip vs).map (Kc way no)).length:=by
 have h3:i<((l.zip vs).map (Kc way no)).length:=by simp;omega
 refine ⟨?_,h3⟩
 rw [Ac _ _ _ h3,Ac (0,0) _ _ h1,Ac [] _ _ h2,List.getElem_map,List.getElem_zip]
end
section
open Go.RowKit
theorem grow_step {α:Type} {R:QV α} (hR:Stable R) {size:Nat} {d:α} {w0 wr wm w':World} {S:Nat→Prop} {L e i:Nat} {v:Value} {xs cs:List Value} {l:List α} {x:α}
 (hS:∀ b,S b→b<L) (hB:Below L w0 wr) (hL:L≤w0.heap.size) (hOW:wr.ownsRow L e size v i xs) (hC:Bj R size d wr S l xs) (hBm:Below wr.heap.size wr wm) (hcs:cs.length=size) (hx:R w0 S cs x) (hg:wm.grownBy w' v.ownBlock) :
 Below L w0 w'∧Bj R size d w' S (l++[x]) (xs++cs):=by
 have hz:=hB.size
 have h1:Below L wm w':=(Touch.BO (R:=fun x=>L≤x) hg (fun x hx=>(hOW.lt x hx).1)).below (fun x h=>h) (by have:=hBm.size;omega)
 have h2:Below L w0 w':=(hB.trans (hBm.mono (by omega))).trans h1
 refine ⟨h2,(hC.keep hR (fun _ h=>h) (Mh hB h2 hS)).WH (Bj.single hcs (hR _ _ _ _ _ _ (fun _ h=>h) (AL h2 hS) hx))⟩
theorem nI {α:Type} {R:QV α} {size:Nat} {d:α} {w:World} {S:Nat→Prop} {A:Option Addr} {l:List α} (h:BX R size d w S A l):∃ xs,Bj R size d w S l xs∧(∀ p,A=some p→∀ j u,xs[j]? = some u→w.cell? (p.add j)=some u)∧(A=none→l.length=0):=by
 cases A with
 | none =>
  have h0:l.length=0:=by
   by_cases hl:0<l.length
   · obtain ⟨b,off,e,_⟩:=h hl
     cases e
   · omega
  obtain rfl:l=[]:=List.eq_nil_of_length_eq_zero h0
  exact ⟨[],Bj.F4,(fun p hp=>by cases hp),fun _=>rfl⟩
 | some a =>
  obtain ⟨xs,h1,h2⟩:=JH h
  exact ⟨xs,h1,(fun p hp=>by cases hp;exact h2),fun e=>by cases e⟩
theorem Rv {bs:List UInt8} {tree deep:Int} {way:List Int} {no lo hi:Int} (h:Bf bs tree deep way no lo hi=0) (hr:Cn lo hi=true):FN lo hi (nodeAt bs no).keys=0:=by
 obtain ⟨h1,_,h3⟩:=GD h
 exact (Ip hr (Io (Dg h1)).1).2 h3
theorem aX {bs:List UInt8} {tree deep:Int} {way:List Int} {no lo hi:Int} (h:Bf bs tree deep way no lo hi=0) (hr:Cn lo hi=true) :
 ∀ v∈((spansOf hi (nodeAt bs no).keys).zip (nodeAt bs no).vals).map (Kc way no),v.way.length≤16∧(v.fault=0→Cn v.lo v.hi=true):=by
 obtain ⟨h1,h2,h3⟩:=GD h
 intro v hv
 obtain ⟨⟨x,y⟩,hx,rfl⟩:=List.mem_map.1 hv
 have hxm:x∈spansOf hi (nodeAt bs no).keys:=(List.of_mem_zip hx).1
 obtain ⟨i,hi1,rfl⟩:=List.getElem_of_mem hxm
 have hil:i<(nodeAt bs no).keys.length:=by rw [Dj] at hi1;exact hi1
 have XQ:=NN (Rv h hr) i hil
 rw [Ac (0,0) _ i hi1] at XQ
 unfold Kc
 dsimp only
 by_cases h0:(Aj y).2≠0
 · rw [if_pos h0]
   exact ⟨by show way.length≤16;omega,fun e=>absurd e h0⟩
 · rw [if_neg h0]
   exact ⟨by show (way++[no]).length≤16;simp;omega,fun _=>XQ⟩
theorem Yh.inner {w Ch w16:World} {g:Nat} {bs:List UInt8} {tree fuel:Int} {F st:WS} {A:Option Addr} {c n:Nat} {kids r:List NP} {Ae Ab Af:Option Addr} {ce cb cf:Nat} {xs ys:List Value}
 (hb0:AP Ch w.heap.size #[.slice none 0 0,.slice none 0 0,.int .i64 0,.int .i64 0,.slice none 0 0] 145) (hBw:Below w.heap.size w Ch) (hrq:RQ Ch g g st Ae ce Ab cb Af cf xs)
 (hB:Below Ch.heap.size Ch w16) (hown:w16.ownsRow Ch.heap.size 285 5 (.slice A n c) n ys) (hc:Bj Vs 5 Jy w16 (Hz Ch g g st Ae ce Ab cb Af cf) (kids++r) ys) (hn:n=(kids++r).length)
 (hwf:EO bs tree fuel (kids++r) st=F) (hok:TQ fuel (kids++r) st) :
 Yh w w16 g bs tree fuel F A n c st (kids++r) Ae ce Ab cb Af cf xs:=by
 obtain ⟨k1,k2,k3⟩:=DZ hrq hB
 refine ⟨hn,CF.dz hown hn hc k1 (fun b h1 h2=>k3 b h1 h2) Ei,hrq.below hB,hb0.below hB hb0.lt,hBw.trans (hB.mono hBw.size),hwf,hok⟩
end
section
open Go.RowKit Go.Shelf
attribute [local go_sem] Oper.semAt_some
theorem VY (w:World) (A:Option Addr) (n c:Nat):Calls Tryz.prog 177 #[.slice A n c,.int .i64 960] w fun e w' =>
 e=.returned (.func (.func 215) #[] #[.pointer (some ⟨w.heap.size,0,none⟩),.pointer (some ⟨w.heap.size+1,0,none⟩)])∧w'=(w.alloc (.cells #[.slice A n c] 29)).alloc (.cells #[.int .i64 960] 3):=by
 go_enter Tryz.func177,Tryz.ntmps177
 go_wp2
 go_ret
 exact ⟨rfl,rfl⟩
def NoW (W W':World):Prop:=False
set_option maxRecDepth 100000 in
theorem XW (n:Nat) (hn:1≤n) (gA gB c:Nat) (A:Option Addr) (w:World) (hA:AP w gA #[.slice A 0 c] 29) :
 iw Fence.wide n Tryz.prog 215 #[.pointer (some ⟨gA,0,none⟩),.pointer (some ⟨gB,0,none⟩)] (fun _=>#[.slice none 0 0]) (N7 fun x=>x=gA∨x=gB) NoW 0 w:=by
 intro lp J Jx W hBW hJ hJx hY hj0
 have x0:=(hA.below hBW hA.lt).at 0 _ rfl
 have HJ0:=qh hj0
 clear hY hJ hJx hA hBW hj0
 refine callsIn_of_wp Tryz.func215 rfl trivial ?_ rfl
 simp only [Tryz.ntmps215,List.size_toArray,List.length_cons,List.length_nil,Nat.reduceAdd,Nat.reduceSub,Array.replicate_succ,Array.replicate_zero,List.push_toArray,List.append_toArray,List.nil_append,List.cons_append]
 gi_wp2
 gi_loopw [4] (fun vi wr=>vi=.int .i64 0∧wr=W) (fun _ _=>1)
 case atStart=>exact ⟨rfl,rfl⟩
 case round =>
  obtain ⟨rfl,hwr⟩:=hrel
  rw [hwr]
  clear hwr wr
  gi_wp2
  refine bodyPost_end (results_none rfl _ _ _) rfl ?_
  exact ⟨⟨_,rfl⟩,.inl HJ0.out⟩
set_option maxRecDepth 100000 in
theorem XX (n:Nat) (hn:1≤n) (gA gB g m c:Nat) (w:World) (h1:1≤m) (hm:m<960) (hmc:m≤c) (hA:AP w gA #[.slice (some ⟨g,0,none⟩) m c] 29) (hB:AP w gB #[.int .i64 960] 3) :
 iw Fence.wide n Tryz.prog 215 #[.pointer (some ⟨gA,0,none⟩),.pointer (some ⟨gB,0,none⟩)] (fun _=>#[.slice (some ⟨g,0,none⟩) m m]) (N7 fun x=>x=gA∨x=gB) NoW 1 w:=by
 intro lp J Jx W hBW hJ hJx hY hj0
 have HY:=qh hY
 have HSJ:=qh hJ
 have HJ0:=qh hj0
 have HA0:=qh (hA.below hBW hA.lt)
 have HB0:=qh (hB.below hBW hB.lt)
 have yH:(m:Int)<960:=by omega
 have hm1:(0:Int)<(m:Int):=by omega
 have AEj:(m:Int)≤(c:Int):=by omega
 have hmin:min (960:Int) (m:Int)=(m:Int):=by omega
 have Vy:¬ (960:Int)<(m:Int):=by omega
 have hd9:decide ((960:Int)<(m:Int))=false:=decide_eq_false Vy
 clear hY hJ hJx hA hB hBW hj0 h1 hm hmc Vy
 refine callsIn_of_wp Tryz.func215 rfl trivial ?_ rfl
 simp only [Tryz.ntmps215,List.size_toArray,List.length_cons,List.length_nil,Nat.reduceAdd,Nat.reduceSub,Array.replicate_succ,Array.replicate_zero,List.push_toArray,List.append_toArray,List.nil_append,List.cons_append]
 gi_wp2
 gi_loopw [4] (fun vi wr=>(vi=.int .i64 0∧wr=W)∨(vi=.int .i64 960∧Hid (J 1 wr)∧Hid (N7 (fun x=>x=gA∨x=gB) W wr))) (fun vi _=>1-(intOf vi).toNat)
 case atStart=>exact .inl ⟨rfl,rfl⟩
 case round =>
  rcases hrel with ⟨rfl,hwr⟩|⟨rfl,HJ1,HK1⟩
  · rw [hwr]
    clear hwr wr
    have a0:=HA0.out.at 0 _ rfl
    have b0:=HB0.out.at 0 _ rfl
    gi_wp2
    gi_quiet (fail)
    have HJ2:=qh (TV HSJ.out.1 HJ0.out nq)
    have iy:Hid (N7 (fun x=>x=gA∨x=gB) W (W.drewN nq)):=⟨fun _ _=>rfl,Nat.le_refl _⟩
    have HA2:Hid (AP (W.drewN nq) gA #[.slice (some ⟨g,0,none⟩) m c] 29):=HA0.out
    have HB2:Hid (AP (W.drewN nq) gB #[.int .i64 960] 3):=HB0.out
    generalize W.drewN nq=W2 at *
    have a2:=HA2.out.at 0 _ rfl
    have b2:=HB2.out.at 0 _ rfl
    obtain ⟨fn,tmps,assign,body,hy,hR⟩:=HY.out 0 _ (by decide) HJ2.out
    clear a0 b0
    gi_wp2
    refine hR.mono ?_
    rintro e W3 (⟨rfl,hJ3,hk3⟩|⟨rfl,hJx3⟩)
    · have HJ3:=qh hJ3
      have jA:=qh (iy.out.trans hk3)
      have HB3:=qh (hk3.box (.inr rfl) HB2.out)
      have b3:=HB3.out.at 0 _ rfl
      clear hy hR hJ3 hk3 a2 b2
      gi_wp2
      go_roundw
      case rel=>exact .inr ⟨rfl,HJ3,jA⟩
      case measure=>simp [intOf]
    · have LM:=qh hJx3
      clear hy hR hJx3 a2 b2
      gi_wp2
      refine bodyPost_ret (results_none rfl _ _ _) rfl ?_
      exact ⟨⟨_,rfl⟩,.inr ⟨1,Nat.le_refl _,LM.out⟩⟩
  · have a0:=(HK1.out.box (.inl rfl) HA0.out).at 0 _ rfl
    gi_wp2
    refine bodyPost_end (results_none rfl _ _ _) rfl ?_
    exact ⟨⟨_,rfl⟩,.inl HJ1.out⟩
end
end Go.Proofs.YtpenklpdjpkigaaGreat
