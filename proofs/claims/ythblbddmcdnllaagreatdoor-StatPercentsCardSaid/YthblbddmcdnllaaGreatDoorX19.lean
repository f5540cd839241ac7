/- A part of the proof: WalkP, WalkM, WImg2, WRef3, WRef3B, WRefs2. -/
import Derived.Test.YthblbddmcdnllaaGreatDoorX6
import Derived.Test.YthblbddmcdnllaaGreatDoorX5
import Derived.Test.YthblbddmcdnllaaGreatDoorX1
import Derived.Test.YthblbddmcdnllaaGreatDoorX8
import Derived.Test.YthblbddmcdnllaaGreatDoorY1
import Derived.Test.YthblbddmcdnllaaGreatDoorX12
import Derived.Deep.RegionLaw
import Derived.Deep.AppendLies
import Derived.Lib.AppendStr
set_option maxHeartbeats 6400000
set_option linter.unusedVariables false
set_option linter.unusedSimpArgs false
namespace Go.Proofs.YthblbddmcdnllaaGreatDoor
section
open Go.RowKit
structure iZ where
 key:Int
 val:List UInt8
 loc:Int
structure WS where
 BA:List iZ
 Aa:List Int
 deep:Int
 looked:Int
 Ag:List Tt
 UB:Bool
def Zu:WS:=⟨[],[],0,0,[],false⟩
def Ay (st:WS) (f:Tt):WS:={ st with Ag:=st.Ag++[f] }
def Di (bs:List UInt8) (tree deep:Int) (way:List Int) (no lo hi:Int):Int :=
 if no∈way then 11
 else if 16≤way.length then 10
 else if Al bs no tree≠0 then Al bs no tree
 else if (nodeAt bs no).keys.all (Bg lo hi)=false then 9
 else if (nodeAt bs no).leaf=true∧deep≠0∧deep≠way.length+1 then 10
 else 0
def Bh (n:Nd) (no:Int):List iZ:=(n.keys.zip n.vals).map fun x=>⟨x.1,x.2,no⟩
def EK (f:Int→Int × Int→WS→WS) (way:List Int) (no:Int):List ((Int × Int) × List UInt8)→WS→WS
 | [],st=>st
 | (x,v) :: r,st =>
  if (if (Au v).2≠0 then Ay st ⟨way++[no],(Au v).2⟩ else f (Au v).1 x st).UB=true then (if (Au v).2≠0 then Ay st ⟨way++[no],(Au v).2⟩ else f (Au v).1 x st)
  else EK f way no r (if (Au v).2≠0 then Ay st ⟨way++[no],(Au v).2⟩ else f (Au v).1 x st)
def BR (bs:List UInt8) (tree fuel:Int):Nat→List Int→Int→Int × Int→WS→WS
 | 0,_,_,_,st=>st
 | d+1,way,no,s,st =>
  if fuel≤st.looked then { Ay st ⟨way++[no],12⟩ with UB:=true }
  else if Di bs tree st.deep way no s.1 s.2≠0 then Ay { st with looked:=st.looked+1 } ⟨way++[no],Di bs tree st.deep way no s.1 s.2⟩
  else if (nodeAt bs no).leaf=true then { st with looked:=st.looked+1,Aa:=st.Aa++[no],deep:=way.length+1,BA:=st.BA++Bh (nodeAt bs no) no }
  else EK (BR bs tree fuel d (way++[no])) way no ((spansOf s.2 (nodeAt bs no).keys).zip (nodeAt bs no).vals) { st with looked:=st.looked+1,Aa:=st.Aa++[no] }
def JJ (bs:List UInt8) (root tree fuel:Int):WS:=BR bs tree fuel 17 [] root (0,281474976710656) Zu
end
section
open Go.RowKit
def G8 (e:iZ):List Value:=[.int .i64 e.key,.string (BJ e.val),.int .i64 e.loc]
theorem Q0 (e:iZ):∀ x∈G8 e,x.oneCell'=true:=by intro x hx;simp [G8] at hx;rcases hx with rfl|rfl|rfl <;> rfl
def RW (a:Nat) (ve vb vf vw:Value) (x:Nat):Prop:=x=a∨ve.ownBlock=some x∨vb.ownBlock=some x∨vf.ownBlock=some x∨vw.ownBlock=some x
def GL (w:World) (S:Nat→Prop) (vs:List Value) (l:List Tt):Prop:=vs.length=l.length∧∀ k,k<l.length→Cu w S (nth .nilIface vs k) (nth ⟨[],0⟩ l k).blocks (nth ⟨[],0⟩ l k).code
theorem GL.keep {w w':World} {S S':Nat→Prop} {vs:List Value} {l:List Tt} (h:GL w S vs l) (hs:∀ b,S b→S' b) (hk:CU S w w'):GL w' S' vs l:=⟨h.1,fun k hk'=>(h.2 k hk').keep hs hk⟩
theorem GL.snoc {w:World} {S:Nat→Prop} {vs:List Value} {l:List Tt} {v:Value} {f:Tt} (h:GL w S vs l) (hv:Cu w S v f.blocks f.code):GL w S (vs++[v]) (l++[f]):=by
 refine ⟨by simp [h.1],fun k hk=>?_⟩
 rw [List.length_append,List.length_singleton] at hk
 by_cases hlt:k<l.length
 · rw [Gi _ _ _ _ hlt,Gi _ _ _ _ (by rw [h.1];exact hlt)]
   exact h.2 k hlt
 · obtain rfl:k=l.length:=by omega
   have e:=Gw (Value.nilIface) vs [] v
   rw [h.1] at e
   rw [e,Gw]
   exact hv
structure Wk (w:World) (base a:Nat) (img:Nat) (tree fuel:Int) (st:WS) (way:List Int) (Ae:Option Addr) (ce:Nat) (Ab:Option Addr) (cb:Nat) (Af:Option Addr) (cf:Nat) (Aw:Option Addr) (cw:Nat) (vs:List Value):Prop where
 low:base≤a
 box:AL w a #[.slice Ae st.BA.length ce,.slice Ab st.Aa.length cb,.int .i64 st.deep,.int .i64 st.looked,.slice Af st.Ag.length cf,.pointer (some ⟨img,0,none⟩),.int .i64 tree,.int .i64 fuel,.slice Aw way.length cw,.bool st.UB] 329
 BA:w.ownsRow base 144 3 (.slice Ae st.BA.length ce) st.BA.length (AA G8 st.BA)
 Aa:w.ownsRow base 3 1 (.slice Ab st.Aa.length cb) st.Aa.length (AA encI st.Aa)
 Ag:w.ownsRow base 27 1 (.slice Af st.Ag.length cf) st.Ag.length vs
 ways:w.ownsRow base 3 1 (.slice Aw way.length cw) way.length (AA encI way)
 apart:∀ x,(Value.slice Ab st.Aa.length cb).ownBlock=some x→(Value.slice Aw way.length cw).ownBlock≠some x
 errs:GL w (FB w base) vs st.Ag
abbrev Et (a:Nat) (st:WS) (way:List Int) (Ae:Option Addr) (ce:Nat) (Ab:Option Addr) (cb:Nat) (Af:Option Addr) (cf:Nat) (Aw:Option Addr) (cw:Nat):Nat→Prop:=RW a (.slice Ae st.BA.length ce) (.slice Ab st.Aa.length cb) (.slice Af st.Ag.length cf) (.slice Aw way.length cw)
section
variable {w w':World} {base a img:Nat} {tree fuel:Int} {st:WS} {way:List Int} {Ae Ab Af Aw:Option Addr} {ce cb cf cw:Nat} {vs:List Value}
theorem Wk.cells (h:Wk w base a img tree fuel st way Ae ce Ab cb Af cf Aw cw vs):w.cell? ⟨a,0,none⟩=some (.slice Ae st.BA.length ce)∧w.cell? ⟨a,1,none⟩=some (.slice Ab st.Aa.length cb)∧w.cell? ⟨a,2,none⟩=some (.int .i64 st.deep)∧w.cell? ⟨a,3,none⟩=some (.int .i64 st.looked)∧w.cell? ⟨a,4,none⟩=some (.slice Af st.Ag.length cf) ∧
 w.cell? ⟨a,5,none⟩=some (.pointer (some ⟨img,0,none⟩))∧w.cell? ⟨a,6,none⟩=some (.int .i64 tree)∧w.cell? ⟨a,7,none⟩=some (.int .i64 fuel)∧w.cell? ⟨a,8,none⟩=some (.slice Aw way.length cw)∧w.cell? ⟨a,9,none⟩=some (.bool st.UB) :=
 ⟨h.box.at 0 _ rfl,h.box.at 1 _ rfl,h.box.at 2 _ rfl,h.box.at 3 _ rfl,h.box.at 4 _ rfl,h.box.at 5 _ rfl,h.box.at 6 _ rfl,h.box.at 7 _ rfl,h.box.at 8 _ rfl,h.box.at 9 _ rfl⟩
theorem Wk.free (h:Wk w base a img tree fuel st way Ae ce Ab cb Af cf Aw cw vs) (i:Nat):w.frozen? ⟨a,i,none⟩=false:=h.box.free i
theorem Wk.below (h:Wk w base a img tree fuel st way Ae ce Ab cb Af cf Aw cw vs) (hB:Below w.heap.size w w'):Wk w' base a img tree fuel st way Ae ce Ab cb Af cf Aw cw vs:=by
 obtain ⟨k1,k2⟩:=Ec (w:=w) (w':=w') (base:=base) (fun b cs hb=>hB.block b (Array.getElem?_eq_some_iff.1 hb).1)
 exact ⟨h.low,h.box.below hB h.box.lt,own_below h.BA hB (Nat.le_refl _),own_below h.Aa hB (Nat.le_refl _),own_below h.Ag hB (Nat.le_refl _),own_below h.ways hB (Nat.le_refl _),h.apart,h.errs.keep k1 k2⟩
theorem Wk.YL (h:Wk w base a img tree fuel st way Ae ce Ab cb Af cf Aw cw vs) (i:Nat) (u:Value) (st':WS) (he:st'.BA=st.BA) (hb:st'.Aa=st.Aa) (hf:st'.Ag=st.Ag)
 (pI:(#[.slice Ae st.BA.length ce,.slice Ab st.Aa.length cb,.int .i64 st.deep,.int .i64 st.looked,.slice Af st.Ag.length cf,.pointer (some ⟨img,0,none⟩),.int .i64 tree,.int .i64 fuel,.slice Aw way.length cw,.bool st.UB]:Array Value).setIfInBounds i u=#[.slice Ae st.BA.length ce,.slice Ab st.Aa.length cb,.int .i64 st'.deep,.int .i64 st'.looked,.slice Af st.Ag.length cf,.pointer (some ⟨img,0,none⟩),.int .i64 tree,.int .i64 fuel,.slice Aw way.length cw,.bool st'.UB]) :
 Wk (w.setCell ⟨a,i,none⟩ u) base a img tree fuel st' way Ae ce Ab cb Af cf Aw cw vs:=by
 obtain ⟨k1,k2⟩:=Ec (w:=w) (w':=w.setCell ⟨a,i,none⟩ u) (base:=base) (fun b cs hb=>Below.heap_setCell w ⟨a,i,none⟩ u b (fun e=>by
  have hx:=h.box
  unfold AL at hx
  dsimp only at e
  subst e
  rw [hx] at hb
  injection hb with hb
  injection hb with _ ht
  exact absurd ht (by decide)))
 have hbx:=h.box.set i u
 rw [pI] at hbx
 obtain ⟨e',b',d',l',f',y'⟩:=st'
 dsimp only at he hb hf hbx
 subst he hb hf
 exact ⟨h.low,hbx,Ac (a:=⟨a,i,none⟩) h.BA (BL (g:=a) h.BA h.box (by decide)) u,Ac (a:=⟨a,i,none⟩) h.Aa (BL (g:=a) h.Aa h.box (by decide)) u,Ac (a:=⟨a,i,none⟩) h.Ag (BL (g:=a) h.Ag h.box (by decide)) u,Ac (a:=⟨a,i,none⟩) h.ways (BL (g:=a) h.ways h.box (by decide)) u,h.apart,h.errs.keep k1 k2⟩
theorem JK {e size n:Nat} {v:Value} {xs:List Value} (hr:w.ownsRow base e size v n xs) (hg:w.grownBy w' v.ownBlock) (hne:e≠186):(∀ b,FB w base b→FB w' base b)∧CU (FB w base) w w' :=
 Ec (fun b cs hb=>hg.block b (Array.getElem?_eq_some_iff.1 hb).1 (BC hr hb hne))
theorem G9 {i:Nat} {u:Value} {cs0:Array Value} (hx:AL w a cs0 329):(∀ b,FB w base b→FB (w.setCell ⟨a,i,none⟩ u) base b)∧CU (FB w base) w (w.setCell ⟨a,i,none⟩ u) :=
 Ec (fun b cs hb=>Below.heap_setCell w ⟨a,i,none⟩ u b (fun e=>by
  unfold AL at hx
  dsimp only at e
  subst e
  rw [hx] at hb
  injection hb with hb
  injection hb with _ ht
  exact absurd ht (by decide)))
theorem Wk.yo (h:Wk w base a img tree fuel st way Ae ce Ab cb Af cf Aw cw vs) {v:Value} {f:Tt} {A:Option Addr} {c:Nat} (hown:w'.ownsRow base 27 1 (.slice A (st.Ag.length+1) c) (st.Ag.length+1) (vs++[v])) (hg:w.grownBy w' (Value.slice Af st.Ag.length cf).ownBlock) (hv:Cu w (FB w base) v f.blocks f.code) :
 Wk (w'.setCell ⟨a,4,none⟩ (.slice A (st.Ag.length+1) c)) base a img tree fuel (Ay st f) way Ae ce Ab cb A c Aw cw (vs++[v]):=by
 have hbx:AL w' a _ 329:=(hg.block a h.box.lt (BC h.Ag h.box (by decide))).trans h.box
 have e1:=CY h.BA h.Ag (by decide) hg
 have e2:=CY h.Aa h.Ag (by decide) hg
 have e3:=CY h.ways h.Ag (by decide) hg
 obtain ⟨k1,k2⟩:=JK h.Ag hg (by decide)
 obtain ⟨k3,k4⟩:=G9 (base:=base) (i:=4) (u:=.slice A (st.Ag.length+1) c) hbx
 have hfl:(Ay st f).Ag.length=st.Ag.length+1:=by simp [Ay]
 refine ⟨h.low,?_,Ac (a:=⟨a,4,none⟩) e1 (BL (g:=a) e1 hbx (by decide)) _,Ac (a:=⟨a,4,none⟩) e2 (BL (g:=a) e2 hbx (by decide)) _,?_,Ac (a:=⟨a,4,none⟩) e3 (BL (g:=a) e3 hbx (by decide)) _,h.apart,?_⟩
 · have:=hbx.set 4 (.slice A (st.Ag.length+1) c)
   rw [hfl]
   exact this
 · rw [hfl]
   exact Ac (a:=⟨a,4,none⟩) hown (BL (g:=a) hown hbx (by decide)) _
 · exact ((h.errs.snoc hv).keep k1 k2).keep k3 k4
theorem Wk.yt (h:Wk w base a img tree fuel st way Ae ce Ab cb Af cf Aw cw vs) {x:iZ} {A:Option Addr} {c:Nat} (hown:w'.ownsRow base 144 3 (.slice A (st.BA.length+1) c) (st.BA.length+1) (AA G8 (st.BA++[x]))) (hg:w.grownBy w' (Value.slice Ae st.BA.length ce).ownBlock) :
 Wk (w'.setCell ⟨a,0,none⟩ (.slice A (st.BA.length+1) c)) base a img tree fuel { st with BA:=st.BA++[x] } way A c Ab cb Af cf Aw cw vs:=by
 have hbx:AL w' a _ 329:=(hg.block a h.box.lt (BC h.BA h.box (by decide))).trans h.box
 have e1:=CY h.Ag h.BA (by decide) hg
 have e2:=CY h.Aa h.BA (by decide) hg
 have e3:=CY h.ways h.BA (by decide) hg
 obtain ⟨k1,k2⟩:=JK h.BA hg (by decide)
 obtain ⟨k3,k4⟩:=G9 (base:=base) (i:=0) (u:=.slice A (st.BA.length+1) c) hbx
 have hfl:(st.BA++[x]).length=st.BA.length+1:=by simp
 refine ⟨h.low,?_,?_,Ac (a:=⟨a,0,none⟩) e2 (BL (g:=a) e2 hbx (by decide)) _,Ac (a:=⟨a,0,none⟩) e1 (BL (g:=a) e1 hbx (by decide)) _,Ac (a:=⟨a,0,none⟩) e3 (BL (g:=a) e3 hbx (by decide)) _,h.apart,(h.errs.keep k1 k2).keep k3 k4⟩
 · have:=hbx.set 0 (.slice A (st.BA.length+1) c)
   rw [hfl]
   exact this
 · rw [hfl]
   exact Ac (a:=⟨a,0,none⟩) hown (BL (g:=a) hown hbx (by decide)) _
theorem Wk.blk (h:Wk w base a img tree fuel st way Ae ce Ab cb Af cf Aw cw vs) {x:Int} {A:Option Addr} {c:Nat} (hown:w'.ownsRow base 3 1 (.slice A (st.Aa.length+1) c) (st.Aa.length+1) (AA encI (st.Aa++[x]))) (hg:w.grownBy w' (Value.slice Ab st.Aa.length cb).ownBlock)
 (hat:∀ y,(Value.slice A (st.Aa.length+1) c).ownBlock=some y→(Value.slice Ab st.Aa.length cb).ownBlock=some y∨w.heap.size≤y) :
 Wk (w'.setCell ⟨a,1,none⟩ (.slice A (st.Aa.length+1) c)) base a img tree fuel { st with Aa:=st.Aa++[x] } way Ae ce A c Af cf Aw cw vs:=by
 have hbx:AL w' a _ 329:=(hg.block a h.box.lt (BC h.Aa h.box (by decide))).trans h.box
 have e1:=CY h.Ag h.Aa (by decide) hg
 have e2:=CY h.BA h.Aa (by decide) hg
 have e3:w'.ownsRow base 3 1 (.slice Aw way.length cw) way.length (AA encI way):=BB h.ways (Touch.CV (R:=fun x=>(Value.slice Ab st.Aa.length cb).ownBlock=some x) hg (fun _ h=>h)) (fun x hx hb=>h.apart x hb hx)
 obtain ⟨k1,k2⟩:=JK h.Aa hg (by decide)
 obtain ⟨k3,k4⟩:=G9 (base:=base) (i:=1) (u:=.slice A (st.Aa.length+1) c) hbx
 have hfl:(st.Aa++[x]).length=st.Aa.length+1:=by simp
 refine ⟨h.low,?_,Ac (a:=⟨a,1,none⟩) e2 (BL (g:=a) e2 hbx (by decide)) _,?_,Ac (a:=⟨a,1,none⟩) e1 (BL (g:=a) e1 hbx (by decide)) _,Ac (a:=⟨a,1,none⟩) e3 (BL (g:=a) e3 hbx (by decide)) _,?_,(h.errs.keep k1 k2).keep k3 k4⟩
 · have:=hbx.set 1 (.slice A (st.Aa.length+1) c)
   rw [hfl]
   exact this
 · rw [hfl]
   exact Ac (a:=⟨a,1,none⟩) hown (BL (g:=a) hown hbx (by decide)) _
 · intro y hy hw
   rw [hfl] at hy
   rcases hat y hy with h1|h1
   · exact h.apart y h1 hw
   · have:=(h.ways.lt y hw).2
     omega
theorem Wk.step (h:Wk w base a img tree fuel st way Ae ce Ab cb Af cf Aw cw vs) {x:Int} {A:Option Addr} {c:Nat} (hown:w'.ownsRow base 3 1 (.slice A (way.length+1) c) (way.length+1) (AA encI (way++[x]))) (hg:w.grownBy w' (Value.slice Aw way.length cw).ownBlock)
 (hat:∀ y,(Value.slice A (way.length+1) c).ownBlock=some y→(Value.slice Aw way.length cw).ownBlock=some y∨w.heap.size≤y) :
 Wk (w'.setCell ⟨a,8,none⟩ (.slice A (way.length+1) c)) base a img tree fuel st (way++[x]) Ae ce Ab cb Af cf A c vs:=by
 have hbx:AL w' a _ 329:=(hg.block a h.box.lt (BC h.ways h.box (by decide))).trans h.box
 have e1:=CY h.Ag h.ways (by decide) hg
 have e2:=CY h.BA h.ways (by decide) hg
 have e3:w'.ownsRow base 3 1 (.slice Ab st.Aa.length cb) st.Aa.length (AA encI st.Aa):=BB h.Aa (Touch.CV (R:=fun x=>(Value.slice Aw way.length cw).ownBlock=some x) hg (fun _ h=>h)) (fun x hx hb=>h.apart x hx hb)
 obtain ⟨k1,k2⟩:=JK h.ways hg (by decide)
 obtain ⟨k3,k4⟩:=G9 (base:=base) (i:=8) (u:=.slice A (way.length+1) c) hbx
 have hfl:(way++[x]).length=way.length+1:=by simp
 refine ⟨h.low,?_,Ac (a:=⟨a,8,none⟩) e2 (BL (g:=a) e2 hbx (by decide)) _,Ac (a:=⟨a,8,none⟩) e3 (BL (g:=a) e3 hbx (by decide)) _,Ac (a:=⟨a,8,none⟩) e1 (BL (g:=a) e1 hbx (by decide)) _,?_,?_,(h.errs.keep k1 k2).keep k3 k4⟩
 · have:=hbx.set 8 (.slice A (way.length+1) c)
   rw [hfl]
   exact this
 · rw [hfl]
   exact Ac (a:=⟨a,8,none⟩) hown (BL (g:=a) hown hbx (by decide)) _
 · intro y hy hw
   rw [hfl] at hw
   rcases hat y hw with h1|h1
   · exact h.apart y hy h1
   · have:=(h.Aa.lt y hy).2
     omega
theorem Wk.turn (h:Wk w base a img tree fuel st way Ae ce Ab cb Af cf Aw cw vs) {way':List Int} {A:Option Addr} {c:Nat} (hown:w.ownsRow base 3 1 (.slice A way'.length c) way'.length (AA encI way')) (hb:(Value.slice A way'.length c).ownBlock=(Value.slice Aw way.length cw).ownBlock) :
 Wk (w.setCell ⟨a,8,none⟩ (.slice A way'.length c)) base a img tree fuel st way' Ae ce Ab cb Af cf A c vs:=by
 obtain ⟨k3,k4⟩:=G9 (base:=base) (i:=8) (u:=.slice A way'.length c) h.box
 refine ⟨h.low,h.box.set 8 (.slice A way'.length c),Ac (a:=⟨a,8,none⟩) h.BA (BL (g:=a) h.BA h.box (by decide)) _,Ac (a:=⟨a,8,none⟩) h.Aa (BL (g:=a) h.Aa h.box (by decide)) _,Ac (a:=⟨a,8,none⟩) h.Ag (BL (g:=a) h.Ag h.box (by decide)) _,Ac (a:=⟨a,8,none⟩) hown (BL (g:=a) hown h.box (by decide)) _,?_,h.errs.keep k3 k4⟩
 intro y hy hw
 rw [hb] at hw
 exact h.apart y hy hw
end
end
section
open Go.RowKit
theorem YN:(Tryz.prog.info? 5).map (·.size)=some 1:=by kernel_rfl
def hasB (n:Nat) (k:Int):Prop:=0≤k∧k<(n:Int) / 256
theorem PN (w:World) (a g off n c k:Nat) (h:w.cell? ⟨a,0,none⟩=some (.slice (some ⟨g,off,none⟩) n c)) (hc:n≤c) (hn:n≤140737488355328) (hk:k*256+256≤n) :
 Calls Tryz.prog 127 #[.pointer (some ⟨a,0,none⟩),.int .i64 k] w fun e w'=>e=.returned (.tuple #[.slice (some ⟨g,off+k*256,none⟩) 256 256,.int .i64 0])∧w=w':=by
 have LM:=qh (fun w' (h:w'.cell? ⟨a,0,none⟩=some (.slice (some ⟨g,off,none⟩) n c))=>CF w' a _ n c h hn)
 have h1:¬ (n:Int) / 256≤(k:Int):=by omega
 have hd1:decide ((n:Int) / 256≤(k:Int))=false:=by simp;omega
 have hb:(n:Int) / 256≤549755813888:=by omega
 have hb0:(0:Int)≤(n:Int) / 256:=by omega
 have hcc:¬ c=k*256:=by omega
 have yx:(c==k*256)=false:=by simp;omega
 generalize (n:Int) / 256=nb at *
 have e0:((k:Int)*256).toNat=k*256:=by omega
 have e2:(((k:Int)+1)*256).toNat=k*256+256:=by omega
 have e3:k*256+256-k*256=256:=by omega
 go_enter Tryz.func127,Tryz.ntmps127
 go_wp2_with (go_at_call 33;refine (LM.out _ h).mono ?_;rintro e w' ⟨rfl,rfl⟩)
 go_ret2
 exact ⟨rfl,rfl⟩
theorem UC (w:World) (a n c:Nat) (A:Option Addr) (k:Int) (h:w.cell? ⟨a,0,none⟩=some (.slice A n c)) (hn:n≤140737488355328) (hk:¬ hasB n k) :
 Calls Tryz.prog 127 #[.pointer (some ⟨a,0,none⟩),.int .i64 k] w fun e w'=>e=.returned (.tuple #[.slice none 0 0,.int .i64 3])∧w=w':=by
 have LM:=qh (fun w' (h:w'.cell? ⟨a,0,none⟩=some (.slice A n c))=>CF w' a _ n c h hn)
 unfold hasB at hk
 by_cases h0:k<0
 · clear hk
   go_enter Tryz.func127,Tryz.ntmps127
   go_wp2_with (go_at_call 33;refine (LM.out _ h).mono ?_;rintro e w' ⟨rfl,rfl⟩)
   go_ret2
   exact ⟨rfl,rfl⟩
 · have h1:(n:Int) / 256≤k:=by omega
   have hd0:decide (k<0)=false:=by simp;omega
   clear hk
   generalize (n:Int) / 256=nb at *
   go_enter Tryz.func127,Tryz.ntmps127
   go_wp2_with (go_at_call 33;refine (LM.out _ h).mono ?_;rintro e w' ⟨rfl,rfl⟩)
   go_ret2
   exact ⟨rfl,rfl⟩
def PO (bs:List UInt8) (k:Nat):List UInt8:=(bs.drop (k*256)).take 256
theorem M6 {bs:List UInt8} {k:Nat} (h:k*256+256≤bs.length):(PO bs k).length=256:=by
 unfold PO
 rw [List.length_take,List.length_drop]
 omega
set_option maxRecDepth 100000 in
theorem bK {w:World} {S:Nat→Prop} {g off c k:Nat} {bs:List UInt8} (h:De w S (some ⟨g,off,none⟩) bs) (hc:bs.length≤c) (hk:k*256+256≤bs.length):De w S (some ⟨g,off+k*256,none⟩) (PO bs k):=by
 have h0:=h.drop (k:=k*256) (by omega) hc
 rw [if_neg (by omega)] at h0
 have h1:De w S _ ((bs.drop (k*256)).take 256):=Bw.take h0 256
 have e:Option.map (fun x:Addr=>x.add (k*256*1)) (some ⟨g,off,none⟩)=some ⟨g,off+k*256,none⟩:=by
  simp only [Option.map_some,add_lit,Nat.mul_one]
 rw [e] at h1
 exact h1
theorem Kl (w:World) (S:Nat→Prop) (a k:Nat) (bs:List UInt8) (hS:∀ b,S b→b<w.heap.size) (h:Am w S a bs) (hn:bs.length≤140737488355328) (hk:k*256+256≤bs.length) :
 Calls Tryz.prog 86 #[.pointer (some ⟨a,0,none⟩),.int .i64 k] w fun e w'=>∃ A c,e=.returned (.tuple #[.slice A 256 c,.int .i64 0])∧w'.ownsRow w.heap.size 5 1 (.slice A 256 c) 256 (AA AX (PO bs k))∧Below w.heap.size w w':=by
 obtain ⟨h0,A,c,h1,h2,h3⟩:=h
 obtain ⟨g,off,rfl,_⟩:=BU h3 (by omega)
 have hl:=M6 hk
 have hcl:=FL w S (.slice (some ⟨g,off+k*256,none⟩) 256 256) (PO bs k) hS ⟨_,256,by rw [hl],by omega,bK h3 h2 hk⟩ (by omega)
 rw [hl] at hcl
 have Qk:=qh hcl
 have LM:=qh (PN w a g off bs.length c k h1 h2 hn hk)
 clear hcl hl h3 h1
 go_enter Tryz.func86,Tryz.ntmps86
 go_wp2_with (first
  | (go_at_call 127;refine LM.out.mono ?_;rintro e w' ⟨rfl,rfl⟩)
  | (go_at_call 141;refine Qk.out.mono ?_;rintro e w1 ⟨A1,c1,rfl,hown,hB⟩))
 go_ret2
 exact ⟨A1,c1,rfl,hown,hB⟩
theorem PP (w:World) (S:Nat→Prop) (a:Nat) (k:Int) (bs:List UInt8) (h:Am w S a bs) (hn:bs.length≤140737488355328) (hk:¬ hasB bs.length k) :
 Calls Tryz.prog 86 #[.pointer (some ⟨a,0,none⟩),.int .i64 k] w fun e w'=>e=.returned (.tuple #[.slice none 0 0,.int .i64 3])∧Below w.heap.size w w':=by
 obtain ⟨h0,A,c,h1,h2,h3⟩:=h
 have Qk:=qh (FL w (fun _=>False) (.slice none 0 0) [] (fun _ h=>h.elim) Bp.DW (by simp))
 have LM:=qh (UC w a bs.length c A k h1 hn hk)
 clear h3 h1 hk
 go_enter Tryz.func86,Tryz.ntmps86
 go_wp2_with (first
  | (go_at_call 127;refine LM.out.mono ?_;rintro e w' ⟨rfl,rfl⟩)
  | (go_at_call 141;refine (LK _).mono ?_;rintro e w1 ⟨rfl,rfl⟩))
 go_ret2
 exact ⟨rfl,Below.refl _ _⟩
def Gv (bs:List UInt8) (k:Int) (b:List UInt8):List UInt8:=if (0≤k∧k<(bs.length:Int) / 256)∧b.length=256 then bs.take (k.toNat*256)++b++bs.drop (k.toNat*256+256) else bs
def Km (w w':World) (a:Nat):Prop:=∃ row,(∀ v,w.cell? ⟨a,0,none⟩=some v→v.ownBlock=row)∧w.grownBy w' row∧w'.heap.size=w.heap.size
theorem Q7 {w:World} {base e g n c:Nat} {xs:List Value} (h:w.ownsRow base e 1 (.slice (some ⟨g,0,none⟩) n c) n xs):∃ cur:Array Value,w.heap[g]? = some (.cells cur e (0,0))∧n≤cur.size∧∀ (off:Nat) (cs:List Value),off+cs.length≤n →
 (w.setRow g (cur.toList.take off++(cs++cur.toList.drop (off+cs.length))).toArray).ownsRow base e 1 (.slice (some ⟨g,0,none⟩) n c) n (xs.take off++(cs++xs.drop (off+cs.length))):=by
 have hl:=h.1
 rcases h.2 with ⟨hv,_⟩|⟨g',cap,cur,hv,hb,hg,hnc,hm,hcs,ht⟩
 · injection hv with e;cases e
 · injection hv with e1 e2 e3
   injection e1 with e1
   injection e1 with e1
   subst e1 e3
   refine ⟨cur,hg,by omega,fun off cs ho=>⟨by simp only [List.length_append,List.length_take,List.length_drop];omega,.inr ⟨g,c,_,rfl,hb,setRow_heap w g cur _ e (0,0) hg,hnc,hm,?_,?_⟩⟩⟩
   · simp only [List.size_toArray,List.length_append,List.length_take,List.length_drop,Array.length_toList];omega
   · have ho':(cur.toList.take off).length=off:=by rw [List.length_take,Array.length_toList];omega
     rw [← ht,Nat.mul_one,List.toList_toArray,List.take_append,List.take_append,ho',List.take_take,List.take_take,List.drop_take,Nat.min_eq_right (by omega),Nat.min_eq_left (show off≤n by omega),List.take_of_length_le (show cs.length≤n-off by omega),Nat.sub_sub]
theorem M7 {w:World} {gb ob:Nat} {b:List UInt8} (h:∀ k,k<b.length→w.cell? ⟨gb,ob+k,none⟩=some (.int .u8 ((nth 0 b k).toNat:Int))):∀ j v,(AA AX b)[j]? = some v→w.cell? ((⟨gb,ob,none⟩:Addr).add j)=some v:=by
 intro j v hj
 have hlt:j<b.length:=by have:=(List.getElem?_eq_some_iff.1 hj).1;rwa [Ad] at this
 rw [add_lit,h j hlt,AZ 0 b j hlt]
 rw [BQ,List.getElem?_map,List.getElem?_eq_getElem hlt] at hj
 exact hj
theorem LP (w:World) (g:Nat) (cs:Array Value):w.grownBy (w.setRow g cs) (some g) :=
 ⟨rfl,rfl,rfl,by simp,fun k _ hne=>setRow_other w g k cs (fun e=>hne (by rw [e]))⟩
end
section
open Go.RowKit
attribute [local go_sem] Oper.semAt_some
section
variable {w w':World} {base a B:Nat} {L:List (List UInt8)}
end
end
section
open Go.RowKit
attribute [local go_sem] Oper.semAt_some
section
variable {w w':World} {S S':Nat→Prop} {a base:Nat} {B:List (List UInt8)}
end
theorem MX (l:List UInt8):Lib.strCells (BJ l)=AA AX l:=by rw [BQ];rfl
end
section
open Go.RowKit
theorem V3 (n:Nat):(madeCells (Value.int .i64 0).cells (n*1)).toList=AA encI (List.replicate n 0):=by
 rw [Bq,List.map_replicate,Nat.mul_one]
 exact toList_madeCells_one _ n
set_option maxRecDepth 100000 in
theorem KN (w:World) (n:Nat) (hn:n≤65536) :
 Calls Tryz.prog 48 #[.int .i64 n] w fun e w'=>∃ rb g,e=.returned (.tuple #[.pointer (some ⟨rb,0,none⟩),.int .i64 0])∧FU w' rb w.heap.size g (List.replicate n 0)∧w.heap.size≤rb∧Below w.heap.size w w':=by
 obtain ⟨i0,hi,hz0,hz1,hz2⟩:=info_parts JM
 go_enter Tryz.func48,Tryz.ntmps48
 go_wp2_with (at_make;go_loud (refine wpList_make_full _ rfl _ _ 62 rfl w.heap.size 3 i0 (.int .i64 0) 1 Tryz.underlying62 hi hz0 hz1 _ _ _ _ n rfl rfl rfl rfl (by rw [hz2];omega) (by unfold maxLen;omega) (Nat.le_refl _) ?_);intro w1 hown hg;rw [V3] at hown)
 go_ret2
 have hg1:=(hown.lt w.heap.size rfl).2
 have hB:Below w.heap.size w w1:=(Below.refl _ w).grown hg (Nat.le_refl _) (fun k hk=>by cases hk)
 refine ⟨w1.heap.size,w.heap.size,rfl,⟨n,?_,?_,Nat.le_refl _,by simp;omega,by omega⟩,by omega,hB.alloc hB.size _⟩
 · rw [List.length_replicate];exact One.new _ _ _
 · rw [List.length_replicate];exact hown.alloc _
theorem PU (w:World) (rb:Nat) (A:Option Addr) (n c:Nat) (h:w.cell? ⟨rb,0,none⟩=some (.slice A n c)) :
 Calls Tryz.prog 93 #[.pointer (some ⟨rb,0,none⟩)] w fun e w'=>e=.returned (.slice A n c)∧w=w':=by
 go_enter Tryz.func93,Tryz.ntmps93
 go_wp2
 go_ret
 exact ⟨rfl,rfl⟩
theorem JN (w:World) (rb base g:Nat) (l:List Int) (h:FU w rb base g l) (hn:l.length≤65536) :
 Calls Tryz.prog 51 #[.pointer (some ⟨rb,0,none⟩)] w fun e w'=>∃ v',e=.returned v'∧BV w' (Fu w.heap.size w'.heap.size) v' l∧Below w.heap.size w w':=by
 obtain ⟨cap,h1,h2,h3,h4,h5⟩:=h
 have hc:=ND w (Fu base w.heap.size) (.slice (some ⟨g,0,none⟩) l.length cap) l (Bp.own (enc:=encI) Bu h2 (by omega)) (by omega)
 have HC:=qh hc
 have q:=h1.cell
 clear hc h1 h2
 go_enter Tryz.func51,Tryz.ntmps51
 go_wp2_with (first
  | (go_at_call 93;refine (PU _ _ _ _ _ q).mono ?_;rintro e w' ⟨rfl,rfl⟩)
  | (go_at_call 73;refine HC.out.mono ?_;rintro e w2 ⟨v2,rfl,hv2,hB2⟩))
 go_ret
 exact ⟨_,rfl,hv2,hB2⟩
end
end Go.Proofs.YthblbddmcdnllaaGreatDoor
