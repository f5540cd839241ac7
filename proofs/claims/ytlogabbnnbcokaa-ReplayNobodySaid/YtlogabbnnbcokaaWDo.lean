/- replay.do: writes, one after the other, done to a copy of an image; whatever iterator tells their places. Condition: the slices are within the reach. -/
import Derived.Test.YtlogabbnnbcokaaWValues
import Derived.Test.YtlogabbnnbcokaaWImg2
namespace Go.Proofs.Ytlogabbnnbcokaa
open Go.RowKit Go.Shelf
attribute [local go_sem] Oper.semAt_some

/-- What the writes at some places leave of bytes. -/
def doF (l : List Wr) (bs : List UInt8) (js : List Nat) : List UInt8 := js.foldl (fun bs k => wrF bs (nth wr0 l k).no (nth wr0 l k).bytes) bs
theorem doF_snoc (l : List Wr) (bs : List UInt8) (js : List Nat) (k : Nat) : doF l bs (js ++ [k]) = wrF (doF l bs js) (nth wr0 l k).no (nth wr0 l k).bytes := by simp [doF]
theorem wrF_len (bs : List UInt8) (k : Int) (b : List UInt8) : (wrF bs k b).length = bs.length := by
  unfold wrF
  split
  · rename_i h
    obtain ⟨⟨h1, h2⟩, h3⟩ := h
    simp only [List.length_append, List.length_take, List.length_drop]
    omega
  · rfl
theorem doF_len (l : List Wr) (bs : List UInt8) (js : List Nat) : (doF l bs js).length = bs.length := by
  induction js generalizing bs with
  | nil => rfl
  | cons k js ih => have : doF l bs (k :: js) = doF l (wrF bs (nth wr0 l k).no (nth wr0 l k).bytes) js := rfl
                    rw [this, ih, wrF_len]
theorem ownImg_own {β : Type} (base a : Nat) (f : β → List UInt8) : Own (fun s W => OwnImg W base a (f s)) := by
  rintro s X Y row ⟨h0, A, c, h1, h2⟩ hg hrow
  have hn1 : some a ≠ row := fun e => by obtain ⟨o, ho, hc⟩ := hrow a e.symm; rw [show X.heap[a]? = _ from h1] at ho; cases ho; cases hc
  refine ⟨h0, A, c, h1.grown hg hn1, h2.kept hg ?_⟩
  rcases h2.2 with ⟨hv, _⟩ | ⟨g', cap', cur, hv, _, hgb, _⟩
  · left; rw [hv]; rfl
  · right
    rw [hv]
    intro e
    obtain ⟨o, ho, hc⟩ := hrow g' e.symm
    rw [hgb] at ho; cases ho; cases hc
/-- Block b holds just a write. -/
def WrBox (W : World) (b : Nat) (x : Wr) (V : Option Addr × Nat) : Prop := W.heap[b]? = some (.cells #[.int .i64 x.no, .slice V.1 x.bytes.length V.2] 30 (0, 0))
theorem WrBox.cell {W : World} {b : Nat} {x : Wr} {V : Option Addr × Nat} (h : WrBox W b x V) : W.cell? ⟨b, 0, none⟩ = some (.int .i64 x.no) ∧ W.cell? ⟨b, 1, none⟩ = some (.slice V.1 x.bytes.length V.2) := by
  unfold WrBox at h; simp [World.cell?, h]
theorem wrBox_own {β : Type} (b : Nat) (x : Wr) (V : Option Addr × Nat) : Own (fun (_ : β) W => WrBox W b x V) := fun s X Y row hs hg hrow =>
  (hg.block b (Array.getElem?_eq_some_iff.1 hs).1 (fun e => by obtain ⟨o, ho, hc⟩ := hrow b e.symm; rw [show X.heap[b]? = _ from hs] at ho; cases ho; cases hc)).trans hs
theorem keep_grown2 {S : Nat → Prop} {w w' : World} {row : Option Nat} (h : w.grownBy w' row) (hsz : w'.heap.size = w.heap.size) (hr : ∀ g, row = some g → ¬ S g) : Keep S w w' := fun b i hb => by
  by_cases hlt : b < w.heap.size
  · exact World.cell?_of_block (a := ⟨b, i, none⟩) (h.block b hlt (fun e => hr b e.symm hb))
  · have e1 : w.heap[b]? = none := Array.getElem?_eq_none (by omega)
    have e2 : w'.heap[b]? = none := Array.getElem?_eq_none (by omega)
    simp [World.cell?, e1, e2]
/-- A write into an image leaves all but its row. -/
theorem touched_facts {W W' : World} {base a : Nat} {bs : List UInt8} (h : OwnImg W base a bs) (ht : Touched W W' a) : KeepsOthers W W' ∧ (∀ S : Nat → Prop, (∀ b, S b → b < base) → Keep S W W') ∧ (∀ (B : Nat) (w0 : World), Below B w0 W → B ≤ base → B ≤ W.heap.size → Below B w0 W') ∧ (∀ b t u, Boxed W b t u → t ≠ 5 → Boxed W' b t u) := by
  obtain ⟨row, hrow, hg, hsz⟩ := ht
  obtain ⟨h0, A, c, h1, h2⟩ := h
  have hr := hrow _ h1.cell
  have hlt := h2.lt
  refine ⟨⟨by omega, fun k o ho hc => ?_⟩, fun S hS => keep_grown2 hg hsz (fun g hgr hs => ?_), fun B w0 hB hb hbs => hB.grown hg hbs (fun i hi => ?_), fun b t u hb hne => hb.kept hg ?_⟩
  · by_cases hk : some k = row
    · rw [← hr] at hk
      rcases h2.2 with ⟨hv, _⟩ | ⟨g', cap', cur, hv, _, hgb, _⟩
      · rw [hv] at hk; simp [Value.ownBlock] at hk
      · rw [hv] at hk
        have : k = g' := by simpa [Value.ownBlock] using hk
        subst this
        rw [hgb] at ho; cases ho; cases hc
    · exact (hg.block k (Array.getElem?_eq_some_iff.1 ho).1 hk).trans ho
  · have := (hlt g (by rw [hr]; exact hgr)).1
    have := hS g hs
    omega
  · have := (hlt i (by rw [hr]; exact hi)).1; omega
  · rw [← hr]; exact hb.not_row hne h2
end Go.Proofs.Ytlogabbnnbcokaa
