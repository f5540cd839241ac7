/- scantlinglaw18.lives says yes. -/
import Derived.Test.YtlanffolgkpmkaaWPoolRefs
import Derived.Test.YtlanffolgkpmkaaWSameI
namespace Go.Proofs.Ytlanffolgkpmkaa
open Go.RowKit

def exPool : Pool := ⟨0, 0, 1, 3, [⟨1, 0, 0, 0, [⟨5, 1, 0⟩]⟩, ⟨2, 0, 0, 0, [⟨7, 1, 0⟩]⟩]⟩
theorem exPool_chk : poolChk exPool = 0 := by rfl
theorem exPool_refs : refsRes exPool = [0, 2, 0] := by rfl
theorem exPool_ok : exPool.ok := by
  refine ⟨by unfold In64; decide, by unfold In64; decide, by unfold In64; decide, by unfold In64; decide, ?_, by decide⟩
  intro d hd
  simp [exPool] at hd
  rcases hd with rfl | rfl <;> (refine ⟨by unfold In64; decide, by unfold In64; decide, by unfold In64; decide, by unfold In64; decide, ?_, by simp⟩; intro m hm; simp at hm; subst hm; exact ⟨by unfold In64; decide, by unfold In64; decide, by unfold In64; decide⟩)
theorem ha_old {w : World} {o : Obj} {b : Nat} {v : Obj} (h : w.heap[b]? = some v) : (w.alloc o).heap[b]? = some v := (Below.heap_alloc w o b (Array.getElem?_eq_some_iff.1 h).1).trans h
theorem ha_new {w : World} (cs : Array Value) (t : TypeId) {b : Nat} (h : w.heap.size = b) : (w.alloc (.cells cs t)).heap[b]? = some (.cells cs t (0, 0)) := by rw [← h]; exact heap_alloc_new w _
theorem exPool_at {w : World} {S : Nat → Prop} {g1 g2 g3 : Nat} {e1 e2 e3 : TypeId} {f1 f2 f3 : Nat × Nat} (h1 : S g1) (h2 : S g2) (h3 : S g3)
    (m1 : w.heap[g1]? = some (.cells #[.int .i64 5, .int .i64 1, .int .i64 0] e1 f1)) (m2 : w.heap[g2]? = some (.cells #[.int .i64 7, .int .i64 1, .int .i64 0] e2 f2))
    (m3 : w.heap[g3]? = some (.cells #[.int .i64 1, .int .i64 0, .int .i64 0, .int .i64 0, .slice (some ⟨g1, 0, none⟩) 1 1, .int .i64 2, .int .i64 0, .int .i64 0, .int .i64 0, .slice (some ⟨g2, 0, none⟩) 1 1] e3 f3)) :
    IsPool w S (.agg #[.int .i64 0, .int .i64 0, .int .i64 1, .int .i64 3, .slice (some ⟨g3, 0, none⟩) 2 2]) exPool := by
  refine ⟨some ⟨g3, 0, none⟩, 2, rfl, Nat.le_refl _, fun _ => ⟨g3, 0, rfl, h3, fun k hk => ?_⟩⟩
  have r1 : IsMaps w S (.slice (some ⟨g1, 0, none⟩) 1 1) [⟨5, 1, 0⟩] := IsSl.block Mp.enc_len m1 rfl rfl (Nat.le_refl _) h1
  have r2 : IsMaps w S (.slice (some ⟨g2, 0, none⟩) 1 1) [⟨7, 1, 0⟩] := IsSl.block Mp.enc_len m2 rfl rfl (Nat.le_refl _) h2
  obtain ⟨_, _, e1, _, r1⟩ := r1
  obtain ⟨_, _, e2, _, r2⟩ := r2
  cases e1
  cases e2
  rcases k with _ | _ | k
  · refine ⟨[.int .i64 1, .int .i64 0, .int .i64 0, .int .i64 0, .slice (some ⟨g1, 0, none⟩) 1 1], rfl, ⟨_, 1, rfl, Nat.le_refl _, r1⟩, fun j u hu => ?_⟩
    rcases j with _ | _ | _ | _ | _ | j <;> simp at hu <;> subst hu <;> simp [World.cell?, m3]
  · refine ⟨[.int .i64 2, .int .i64 0, .int .i64 0, .int .i64 0, .slice (some ⟨g2, 0, none⟩) 1 1], rfl, ⟨_, 1, rfl, Nat.le_refl _, r2⟩, fun j u hu => ?_⟩
    rcases j with _ | _ | _ | _ | _ | j <;> simp at hu <;> subst hu <;> simp [World.cell?, m3]
  · exact absurd hk (by simp [exPool])

set_option maxRecDepth 100000 in
set_option maxHeartbeats 1600000 in
theorem lives18 (w : World) : Calls Try.prog 7 #[] w fun e w' => e = .returned (.bool true) ∧ Below w.heap.size w w' := by
  have hck := fun w2 S v h hS => check_any w2 S v exPool hS h exPool_ok
  rw [exPool_chk] at hck
  have hrf := fun w2 S v h hS => refs_any w2 S v exPool hS h exPool_ok
  rw [exPool_refs] at hrf
  have HCK := Lib.hid hck
  have HRF := Lib.hid hrf
  clear hck hrf
  go_enter Try.func7, Try.ntmps7
  have hB0 : Below w.heap.size w ((((w.alloc (.cells #[.int .i64 5, .int .i64 1, .int .i64 0] 37)).alloc (.cells #[.int .i64 7, .int .i64 1, .int .i64 0] 37)).alloc (.cells #[.int .i64 1, .int .i64 0, .int .i64 0, .int .i64 0, .slice (some ⟨w.heap.size, 0, none⟩) 1 1, .int .i64 2, .int .i64 0, .int .i64 0, .int .i64 0, .slice (some ⟨w.heap.size + 1, 0, none⟩) 1 1] 35)).alloc (.cells #[.int .i64 0, .int .i64 0, .int .i64 1, .int .i64 3, .slice (some ⟨w.heap.size + 1 + 1, 0, none⟩) 2 2] 24)) :=
    ((((Below.refl _ _).alloc (Nat.le_refl _) _).alloc (by simp) _).alloc (by simp; omega) _).alloc (by simp; omega) _
  go_wp2_with (first
   | (go_at_call 9; generalize hw4 : (((w.alloc (.cells #[.int .i64 5, .int .i64 1, .int .i64 0] 37)).alloc (.cells #[.int .i64 7, .int .i64 1, .int .i64 0] 37)).alloc (.cells #[.int .i64 1, .int .i64 0, .int .i64 0, .int .i64 0, .slice (some ⟨w.heap.size, 0, none⟩) 1 1, .int .i64 2, .int .i64 0, .int .i64 0, .int .i64 0, .slice (some ⟨w.heap.size + 1, 0, none⟩) 1 1] 35)).alloc (.cells #[.int .i64 0, .int .i64 0, .int .i64 1, .int .i64 3, .slice (some ⟨w.heap.size + 1 + 1, 0, none⟩) 2 2] 24) = w4 at *
      have hz4 : w4.heap.size = w.heap.size + 4 := by rw [← hw4]; simp
      have hm1 : w4.heap[w.heap.size]? = some (.cells #[.int .i64 5, .int .i64 1, .int .i64 0] 37 (0, 0)) := by rw [← hw4]; exact ha_old (ha_old (ha_old (ha_new _ _ rfl)))
      have hm2 : w4.heap[w.heap.size + 1]? = some (.cells #[.int .i64 7, .int .i64 1, .int .i64 0] 37 (0, 0)) := by rw [← hw4]; exact ha_old (ha_old (ha_new _ _ (by simp)))
      have hm3 : w4.heap[w.heap.size + 1 + 1]? = some (.cells #[.int .i64 1, .int .i64 0, .int .i64 0, .int .i64 0, .slice (some ⟨w.heap.size, 0, none⟩) 1 1, .int .i64 2, .int .i64 0, .int .i64 0, .int .i64 0, .slice (some ⟨w.heap.size + 1, 0, none⟩) 1 1] 35 (0, 0)) := by rw [← hw4]; exact ha_old (ha_new _ _ (by simp))
      have hm4 : w4.heap[w.heap.size + 1 + 1 + 1]? = some (.cells #[.int .i64 0, .int .i64 0, .int .i64 1, .int .i64 3, .slice (some ⟨w.heap.size + 1 + 1, 0, none⟩) 2 2] 24 (0, 0)) := by rw [← hw4]; exact ha_new _ _ (by simp)
      have hI4 : IsPool w4 (Lt w4.heap.size) (.agg #[.int .i64 0, .int .i64 0, .int .i64 1, .int .i64 3, .slice (some ⟨w.heap.size + 1 + 1, 0, none⟩) 2 2]) exPool := exPool_at (by simp only [Lt]; omega) (by simp only [Lt]; omega) (by simp only [Lt]; omega) hm1 hm2 hm3
      clear hw4 hm1 hm2 hm3
      refine (HCK.out w4 (Lt w4.heap.size) _ hI4 (fun _ h => h)).mono ?_
      rintro e w5 ⟨rfl, hB5⟩
      have hm5 : w5.heap[w.heap.size + 1 + 1 + 1]? = _ := (hB5.block _ (by omega)).trans hm4
      have x0 : w5.cell? ⟨w.heap.size + 1 + 1 + 1, 0, none⟩ = some (.int .i64 0) := by simp [World.cell?, hm5]
      have x1 : w5.cell? ⟨w.heap.size + 1 + 1 + 1, 1, none⟩ = some (.int .i64 0) := by simp [World.cell?, hm5]
      have x2 : w5.cell? ⟨w.heap.size + 1 + 1 + 1, 2, none⟩ = some (.int .i64 1) := by simp [World.cell?, hm5]
      have x3 : w5.cell? ⟨w.heap.size + 1 + 1 + 1, 3, none⟩ = some (.int .i64 3) := by simp [World.cell?, hm5]
      have x4 : w5.cell? ⟨w.heap.size + 1 + 1 + 1, 4, none⟩ = some (.slice (some ⟨w.heap.size + 1 + 1, 0, none⟩) 2 2) := by simp [World.cell?, hm5]
      have hs5 := hB5.size
      have hI5 := hI4.keep (fun _ h => Nat.lt_of_lt_of_le h hs5) (keep_below hB5 (fun _ h => h))
      have hB05 := hB0.trans (hB5.mono (by omega))
      clear hm4 hm5 hI4)
   | (go_at_call 8
      refine (HRF.out w5 (Lt w5.heap.size) _ hI5 (fun _ h => h)).mono ?_
      rintro e w6 ⟨v6, rfl, hv6, hB6⟩
      have hB06 := hB05.trans (hB6.mono (by omega))
      have hs6 := hB6.size)
   | (go_at_call 20
      refine (sameI_any _ (Lt (w6.heap.size + 1)) _ _ [0, 2, 0] [0, 2, 0] (hv6.keep (flat_stable _) (fun b hb => Nat.lt_of_lt_of_le hb.2 (Nat.le_succ _)) (keep_alloc (fun b hb => hb.2) _)) (IsSl.block (fun _ => rfl) (heap_alloc_new w6 _) rfl rfl (by decide) (Nat.lt_succ_self _)) (by decide)).mono ?_
      rintro e w7 ⟨rfl, m, rfl⟩
      have hB07 := below_drewN (hB06.alloc hB06.size (.cells #[.int .i64 0, .int .i64 2, .int .i64 0] 3)) m))
  go_ret
  exact ⟨rfl, hB07⟩
end Go.Proofs.Ytlanffolgkpmkaa
