/- A part of the proof: WRScan, WRWhole, RangeW2. -/
import Derived.Test.YthblbddmcdnllaaGreatDoorX31
import Derived.Test.YthblbddmcdnllaaGreatDoorX15
import Derived.Test.YthblbddmcdnllaaGreatDoorX3
import Derived.Test.YthblbddmcdnllaaGreatDoorX30
import Derived.Test.YthblbddmcdnllaaGreatDoorY1
import Derived.Test.YthblbddmcdnllaaGreatDoorX28
set_option maxHeartbeats 6400000
set_option linter.unusedVariables false
set_option linter.unusedSimpArgs false
namespace Go.Proofs.YthblbddmcdnllaaGreatDoor
section
open Go.RowKit Go.Shelf
attribute [local go_sem] Oper.semAt_some
end
section
open Go.RowKit Go.Shelf
attribute [local go_sem] Oper.semAt_some
end
section
open Go.RowKit Go.Shelf
variable {F:Fence} {n:Nat} {P:Program}
theorem Io {g:Operand} {ps:Array Tmp} {assign body:Code} {Q:Exit→Act→World→Prop} {a:Act} {w:World}
 (hro:F.round=none) (h1:1≤n) {gf:Nat} {lb:Array Value} (hg:a.eval g=.func (.func gf) #[] lb) (hFg:F.fn gf) (eg:∀ args w,(callFunc gf args).run P w=.ok (.enter gf args) w)
 {encs:Nat→Array Value} {Kp Wr:World→World→Prop} {N:Nat} (hseq:Y5 F (n-1) P gf lb encs Kp Wr N w)
 (oH:∀ W W':World,Wr W W'→∀ (k:Nat) (o:Obj),W.heap[k]? = some o→o.isCells=false→W'.heap[k]? = some o)
 (hKt:∀ {A B C:World},Kp A B→Kp B C→Kp A C) (hKb:∀ (W:World) (l:Nat) (o':Obj),w.heap.size≤l→Kp W (W.putObj l o')) (hps:∀ k,(encs k).size=ps.size)
 (I:Nat→World→Prop) (Ix:Code→Nat→World→Prop) (hI:OwnFrom w.heap.size I) (hIx:∀ c,OwnFrom w.heap.size (Ix c)) (eF:∀ k W W',I k W→Wr W W'→I k W') (R9:∀ c k W W',Ix c k W→Wr W W'→Ix c k W') (h0:I 0 w)
 (Lv:∀ (l k:Nat) (W:World),I k W →
  assign.wpIn (F.inRound l) (n-1-1) P (Exit.then (fun a' W'=>Hid (KeepsFrom w.heap.size W W'∧Kp W W'∧I k W'∧∀ (l:Nat) (W:World),w.heap.size≤l→(∃ r,W.heap[l]? = some (.loop r))→I k W→k<N→body.wpIn (F.inRound l) (n-1-1) P (eD w.heap.size Kp I Ix k W) a' W)) (fun _ _ _=>False))
   { tmps:=(ps.zip (encs k)).foldl (fun t (p,v)=>t.setIfInBounds p v) a.tmps,defers:=[] } W)
 (hdone:∀ (D:Nat) (W:World),w.heap.size≤D→I N W→W.heap[D]? = some (.deferred (some []))→Q .normal { a with defers:={ target:=.collected D,args:=#[] } :: a.defers } W)
 (hstop:∀ (D:Nat) (c:Code) (k:Nat) (W:World),w.heap.size≤D→k≤N→Ix c k W→W.heap[D]? = some (.deferred (some []))→c.wpIn F n P Q { a with defers:={ target:=.collected D,args:=#[] } :: a.defers } W) :
 (Code.rangeFunc g ps assign body).wpIn F n P Q a w :=
 OU hro h1 hg hFg eg hseq oH hKt hKb hps I Ix hI hIx eF R9 h0
  (fun k a' _=>∀ (l:Nat) (W:World),w.heap.size≤l→(∃ r,W.heap[l]? = some (.loop r))→I k W→k<N→body.wpIn (F.inRound l) (n-1-1) P (eD w.heap.size Kp I Ix k W) a' W)
  (fun _ _ _ _ _ _ h _ _=>h)
  (fun l k W K hi hK=>wpIn_mono (Lv l k W hi) (fun e a' W' h=>by
   cases e with
   | normal=>exact hK a' W' (Hid.out h).1 (Hid.out h).2.1 (Hid.out h).2.2.1 (Hid.out h).2.2.2
   | _=>exact h))
  (fun l k a' W h1 h2 h3 h4 h5=>h4 l W h1 h2 h3 h5) hdone hstop
def KC (W W':World):Prop:=W.heap.size≤W'.heap.size∧∀ (b:Nat) (cs:Array Value) (T:TypeId),W.heap[b]? = some (Obj.cells cs T (0,0))→W'.heap[b]? = some (Obj.cells cs T (0,0))
theorem KC.box {W W':World} {g:Nat} {cs:Array Value} {T:TypeId} (h:KC W W') (hb:AL W g cs T):AL W' g cs T:=h.2 g cs T hb
theorem KC.grown {W W':World} {row:Option Nat} (hg:W.grownBy W' row) (hr:∀ r,row=some r→∃ o:Obj,W.heap[r]? = some o∧o.isCells=false):KC W W' :=
 ⟨hg.size,fun b cs T hb=>(hg.block b (Array.getElem?_eq_some_iff.1 hb).1 (fun e=>by
  obtain ⟨o,ho,hc⟩:=hr b e.symm
  rw [hb] at ho
  injection ho with ho
  subst ho
  cases hc)).trans hb⟩
end
end Go.Proofs.YthblbddmcdnllaaGreatDoor
