/- A part of the proof: Memo. -/
import Derived.Test.YtpenklpdjpkigaaGreatX12
import Derived.Test.YtpenklpdjpkigaaGreatX22
import Derived.Maps.OwnSet
import Derived.Test.YtpenklpdjpkigaaGreatY1
set_option maxHeartbeats 6400000
set_option linter.unusedVariables false
set_option linter.unusedSimpArgs false
namespace Go.Proofs.YtpenklpdjpkigaaGreat
section
open Go.RowKit Go.Shelf Go.Maps
def OV (w:World) (base q:Nat) (l:List Mp):Prop:=base≤q∧∃ A c,AP w q #[.slice A l.length c] 111∧IJ w base (.slice A l.length c) l
def M8 (w:World) (base:Nat) (bs:List UInt8) (fuel r:Int) (v:Value):Prop:=(FK bs r fuel = -1∧v=.pointer none)∨(FK bs r fuel ≠ -1∧∃ q,v=.pointer (some ⟨q,0,none⟩)∧OV w base q (Gg bs fuel r))
def GV (w:World) (x:Nat):Prop:=∀ cs T,w.heap[x]? = some (Obj.cells cs T (0,0))→T≠111∧T≠137∧T≠103
theorem GV.row {w:World} {base e size n:Nat} {v:Value} {xs:List Value} (h:w.ownsRow base e size v n xs) (h1:e≠111) (h2:e≠137) (h3:e≠103):∀ x,v.ownBlock=some x→GV w x:=by
 intro x hx cs' T' e'
 rcases h.2 with ⟨hv,h0⟩|⟨g,cap,cur,hv,hb,hg,rest⟩
 · rw [hv] at hx;cases hx
 · rw [hv] at hx
   have e1:x=g:=by simpa [Value.ownBlock] using hx.symm
   subst e1
   rw [hg] at e'
   injection e' with e'
   injection e' with _ e'
   subst e'
   exact ⟨h1,h2,h3⟩
section
variable {R:Nat→Prop} {w w':World} {base:Nat} {bs:List UInt8} {fuel:Int}
theorem bG {v:Value} {l:List Mp} (h:IJ w base v l) (hT:Touch R w w') (hR:∀ x,x<w.heap.size→R x→GV w x):IJ w' base v l :=
 BG h hT (fun x hx hr=>by
  have hlt:=(h.lt x hx).2
  rcases h.2 with ⟨hv,h0⟩|⟨g,cap,cur,hv,hb,hg,rest⟩
  · rw [hv] at hx;cases hx
  · rw [hv] at hx
    have e1:x=g:=by simpa [Value.ownBlock] using hx.symm
    subst e1
    exact (hR x hlt hr _ _ hg).2.1 rfl)
theorem OV.keep {q:Nat} {l:List Mp} (h:OV w base q l) (hT:Touch R w w') (hR:∀ x,x<w.heap.size→R x→GV w x):OV w' base q l:=by
 obtain ⟨h1,A,c,h2,h3⟩:=h
 exact ⟨h1,A,c,(hT.block h2.lt (fun e=>(hR q h2.lt e _ _ h2).1 rfl)).trans h2,bG h3 hT hR⟩
theorem M8.keep {r:Int} {v:Value} (h:M8 w base bs fuel r v) (hT:Touch R w w') (hR:∀ x,x<w.heap.size→R x→GV w x):M8 w' base bs fuel r v:=by
 rcases h with h|⟨h1,q,h2,h3⟩
 · exact .inl h
 · exact .inr ⟨h1,q,h2,h3.keep hT hR⟩
theorem M8.mono {base':Nat} {r:Int} {v:Value} (h:M8 w base' bs fuel r v) (hb:base≤base'):M8 w base bs fuel r v:=by
 rcases h with h|⟨h1,q,h2,h3,A,c,h4,h5⟩
 · exact .inl h
 · exact .inr ⟨h1,q,h2,by omega,A,c,h4,h5.mono hb⟩
end
def rdV (v:Value):Option (DataW Value × List MemPlace):=some (.held v,[])
theorem vS (w:World):(zeroValue 185).run Tryz.prog w=.ok (.pointer none) w:=by kernel_rfl
theorem jO:Keyed Tryz.prog 3:=int_keyed Tryz.underlying3
def JE (w:World) (base:Nat) (bs:List UInt8) (fuel:Int) (mb n:Nat):Prop :=
 ∃ D:DataW Value,w.ownsMap Tryz.prog 3 rdV mb n D∧∀ r:Int,Maps.has D (.int .i64 r)=true→∃ v,D.atKey (.int .i64 r) (.held (.pointer none))=.held v∧M8 w base bs fuel r v
theorem JE.made (w:World) (base:Nat) (bs:List UInt8) (fuel:Int):JE (w.alloc (.map #[] 0)) base bs fuel w.heap.size 0 :=
 ⟨.map [],World.ownsMap_made _ _ _ _,fun r h=>by simp [Maps.has] at h⟩
theorem JE.lt {w:World} {base mb n:Nat} {bs:List UInt8} {fuel:Int} (h:JE w base bs fuel mb n):mb<w.heap.size:=by
 obtain ⟨D,h1,h2⟩:=h
 exact h1.lt
theorem JE.mono {w:World} {base mb n n':Nat} {bs:List UInt8} {fuel:Int} (h:JE w base bs fuel mb n) (hn:n≤n'):JE w base bs fuel mb n':=by
 obtain ⟨D,h1,h2⟩:=h
 exact ⟨D,h1.mono hn,h2⟩
theorem JE.keep {R:Nat→Prop} {w w':World} {base mb n:Nat} {bs:List UInt8} {fuel:Int} (h:JE w base bs fuel mb n) (hT:Touch R w w') (hm:¬ R mb) (hR:∀ x,x<w.heap.size→R x→GV w x):JE w' base bs fuel mb n:=by
 obtain ⟨D,h1,h2⟩:=h
 have hlt:=h1.lt
 obtain ⟨es,clock,hb,F,hs,hD⟩:=h1
 exact ⟨D,⟨es,clock,(hT.block hlt hm).trans hb,F,hs,hD⟩,fun r hr=>by
  obtain ⟨v,h3,h4⟩:=h2 r hr
  exact ⟨v,h3,h4.keep hT hR⟩⟩
theorem JE.look {w:World} {base mb n:Nat} {bs:List UInt8} {fuel:Int} (h:JE w base bs fuel mb n) (r:Int) (hr:In64 r) :
 ∃ v b,(Instr.lookup 101 (.map (some mb)) (.int .i64 r) true).run Tryz.prog w=.ok (.tuple #[v,.bool b]) w∧(b=true→M8 w base bs fuel r v):=by
 obtain ⟨D,h1,h2⟩:=h
 obtain ⟨v,ps,hrun,hv⟩:=h1.look_ok jO Tryz.underlying101 (vS w) (zd:=.held (.pointer none)) (zp:=[]) rfl (keyOf_int_mk Tryz.underlying3 (WalkArith.wf_i64 hr))
 refine ⟨v,_,hrun,fun hb=>?_⟩
 obtain ⟨v',h3,h4⟩:=h2 r hb
 unfold rdV at hv
 injection hv with hv
 injection hv with hv _
 rw [h3] at hv
 injection hv with hv
 rw [hv]
 exact h4
theorem JE.store {w:World} {base mb n:Nat} {bs:List UInt8} {fuel:Int} (h:JE w base bs fuel mb n) (r:Int) (hr:In64 r) (hn:n<maxLen) {v:Value} (hv:M8 w base bs fuel r v) :
 ∃ w',(Instr.mapUpdate 101 (.map (some mb)) (.int .i64 r) v).run Tryz.prog w=.ok () w'∧JE w' base bs fuel mb (n+1)∧w.grownBy w' (some mb):=by
 obtain ⟨D,h1,h2⟩:=h
 have hb:=h1
 obtain ⟨es,clock,hb,_⟩:=hb
 obtain ⟨w',hrun,ho,hg⟩:=h1.update jO Tryz.underlying101 hn (keyOf_int_mk Tryz.underlying3 (WalkArith.wf_i64 hr)) (val:=v) (d:=.held v) (ps:=[]) rfl
 have hT:Touch (fun x=>x=mb) w w':=Touch.BO hg (fun x hx=>(Option.some.inj hx).symm)
 have hN:∀ x,x<w.heap.size→x=mb→GV w x:=fun x _ e cs T hc=>by
  subst e
  rw [hb] at hc
  injection hc with hc
  cases hc
 refine ⟨w',hrun,⟨D.put (.int .i64 r) (.held v),ho,fun r' hr'=>?_⟩,hg⟩
 by_cases e:r'=r
 · subst e
   exact ⟨v,atKey_put_same h1.isMap (k:=.int .i64 r') (by simp [WideAt.IsKeyLit]) _ _,hv.keep hT hN⟩
 · have hne:(Lit.int .i64 r':Lit)≠.int .i64 r:=fun h=>by injection h with _ h;exact e h
   rw [has_put_other hne] at hr'
   obtain ⟨v',h3,h4⟩:=h2 r' hr'
   exact ⟨v',by rw [atKey_put_other hne];exact h3,h4.keep hT hN⟩
end
end Go.Proofs.YtpenklpdjpkigaaGreat
