/- Blocks that hold a mapping, and what a store into an iterator's record keeps. No condition. -/
import Derived.Test.YtolpgblegbahgaaWIter
import Derived.RangeFuncBox
namespace Go.Proofs.Ytolpgblegbahgaa
open Go.RowKit Go.Shelf
theorem keep_putObj {S : Nat → Prop} {w : World} {l : Nat} (h : ∀ b, S b → b ≠ l) (o' : Obj) : Keep S w (w.putObj l o') := fun b i hb => by
  have hg := grownBy_putObj' w l o'
  by_cases hbW : b < w.heap.size
  · exact World.cell?_of_block (a := ⟨b, i, none⟩) (hg.block b hbW (fun e => h b hb (by cases e; rfl)))
  · have e1 : w.heap[b]? = none := Array.getElem?_eq_none (by omega)
    have e2 : (w.putObj l o').heap[b]? = none := by
      refine Array.getElem?_eq_none ?_
      have : (w.putObj l o').heap.size = w.heap.size := by simp [World.putObj]
      omega
    simp [World.cell?, e1, e2]
/-- Block b holds just a mapping. -/
def Tri (w : World) (b : Nat) (m : Mp) : Prop := w.heap[b]? = some (.cells #[.int .i64 m.v, .int .i64 m.b, .int .i64 m.t] 63 (0, 0))
theorem tri_own {β : Type} (b : Nat) (m : Mp) : Own (fun (_ : β) W => Tri W b m) := fun s X Y row hs hg hrow =>
  (hg.block b (Array.getElem?_eq_some_iff.1 hs).1 (fun e => by obtain ⟨o, ho, hc⟩ := hrow b e.symm; rw [show X.heap[b]? = _ from hs] at ho; cases ho; cases hc)).trans hs
theorem Tri.cell {w : World} {b : Nat} {m : Mp} (h : Tri w b m) : w.cell? ⟨b, 0, none⟩ = some (.int .i64 m.v) ∧ w.cell? ⟨b, 1, none⟩ = some (.int .i64 m.b) ∧ w.cell? ⟨b, 2, none⟩ = some (.int .i64 m.t) := by
  unfold Tri at h
  simp [World.cell?, h]
theorem Tri.new (w : World) (m : Mp) : Tri (w.alloc (.cells #[.int .i64 m.v, .int .i64 m.b, .int .i64 m.t] 63)) w.heap.size m := heap_alloc_new w _

end Go.Proofs.Ytolpgblegbahgaa
