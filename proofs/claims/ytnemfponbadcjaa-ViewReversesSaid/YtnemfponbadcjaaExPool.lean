/- The document's example of a pool. No condition. -/
import Derived.Test.YtnemfponbadcjaaWPoolRefs
namespace Go.Proofs.Ytnemfponbadcjaa
open Go.RowKit

def exPool : Pool := ⟨0, 0, 1, 3, [⟨1, 0, 0, 0, [⟨5, 1, 0⟩]⟩, ⟨2, 0, 0, 0, [⟨7, 1, 0⟩]⟩]⟩
theorem exPool_chk : poolChk exPool = 0 := by rfl
theorem exPool_refs : refsRes exPool = [0, 2, 0] := by rfl
theorem exPool_ok : exPool.ok := by
  refine ⟨by unfold In64; decide, by unfold In64; decide, by unfold In64; decide, by unfold In64; decide, ?_, by decide⟩
  intro d hd
  simp [exPool] at hd
  rcases hd with rfl | rfl <;> (refine ⟨by unfold In64; decide, by unfold In64; decide, by unfold In64; decide, by unfold In64; decide, ?_, by simp⟩; intro m hm; simp at hm; subst hm; exact ⟨by unfold In64; decide, by unfold In64; decide, by unfold In64; decide⟩)
theorem ha_old {w : World} {o : Obj} {b : Nat} {v : Obj} (h : w.heap[b]? = some v) : (w.alloc o).heap[b]? = some v := (Below.heap_alloc w o b (Array.getElem?_eq_some_iff.1 h).1).trans h
theorem ha_new {w : World} (cs : Array Value) (t : TypeId) {b : Nat} (h : w.heap.size = b) : (w.alloc (.cells cs t)).heap[b]? = some (.cells cs t (0, 0)) := by rw [← h]; exact heap_alloc_new w _
theorem exPool_at {w : World} {S : Nat → Prop} {g1 g2 g3 : Nat} {e1 e2 e3 : TypeId} {f1 f2 f3 : Nat × Nat} (h1 : S g1) (h2 : S g2) (h3 : S g3)
    (m1 : w.heap[g1]? = some (.cells #[.int .i64 5, .int .i64 1, .int .i64 0] e1 f1)) (m2 : w.heap[g2]? = some (.cells #[.int .i64 7, .int .i64 1, .int .i64 0] e2 f2))
    (m3 : w.heap[g3]? = some (.cells #[.int .i64 1, .int .i64 0, .int .i64 0, .int .i64 0, .slice (some ⟨g1, 0, none⟩) 1 1, .int .i64 2, .int .i64 0, .int .i64 0, .int .i64 0, .slice (some ⟨g2, 0, none⟩) 1 1] e3 f3)) :
    IsPool w S (.agg #[.int .i64 0, .int .i64 0, .int .i64 1, .int .i64 3, .slice (some ⟨g3, 0, none⟩) 2 2]) exPool := by
  refine ⟨some ⟨g3, 0, none⟩, 2, rfl, Nat.le_refl _, fun _ => ⟨g3, 0, rfl, h3, fun k hk => ?_⟩⟩
  have r1 : IsMaps w S (.slice (some ⟨g1, 0, none⟩) 1 1) [⟨5, 1, 0⟩] := IsSl.block Mp.enc_len m1 rfl rfl (Nat.le_refl _) h1
  have r2 : IsMaps w S (.slice (some ⟨g2, 0, none⟩) 1 1) [⟨7, 1, 0⟩] := IsSl.block Mp.enc_len m2 rfl rfl (Nat.le_refl _) h2
  obtain ⟨_, _, e1, _, r1⟩ := r1
  obtain ⟨_, _, e2, _, r2⟩ := r2
  cases e1
  cases e2
  rcases k with _ | _ | k
  · refine ⟨[.int .i64 1, .int .i64 0, .int .i64 0, .int .i64 0, .slice (some ⟨g1, 0, none⟩) 1 1], rfl, ⟨_, 1, rfl, Nat.le_refl _, r1⟩, fun j u hu => ?_⟩
    rcases j with _ | _ | _ | _ | _ | j <;> simp at hu <;> subst hu <;> simp [World.cell?, m3]
  · refine ⟨[.int .i64 2, .int .i64 0, .int .i64 0, .int .i64 0, .slice (some ⟨g2, 0, none⟩) 1 1], rfl, ⟨_, 1, rfl, Nat.le_refl _, r2⟩, fun j u hu => ?_⟩
    rcases j with _ | _ | _ | _ | _ | j <;> simp at hu <;> subst hu <;> simp [World.cell?, m3]
  · exact absurd hk (by simp [exPool])

end Go.Proofs.Ytnemfponbadcjaa
