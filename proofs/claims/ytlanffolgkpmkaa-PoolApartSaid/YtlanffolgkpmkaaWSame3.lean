/- pool.Same: whether two pools are the same. Condition: no slice is longer than the reach. -/
import Derived.Test.YtlanffolgkpmkaaWSame2
namespace Go.Proofs.Ytlanffolgkpmkaa
open Go.RowKit

set_option maxRecDepth 100000 in
set_option maxHeartbeats 1600000 in
theorem samePool_any (w : World) (S1 S2 : Nat → Prop) (v1 v2 : Value) (d e : Pool) (hS1 : ∀ b, S1 b → b < w.heap.size) (hS2 : ∀ b, S2 b → b < w.heap.size) (h1 : IsPool w S1 v1 d) (h2 : IsPool w S2 v2 e) (hn : d.devs.length ≤ 1099511627776) (hm : ∀ k, k < d.devs.length → (nth dev0 d.devs k).maps.length ≤ 140737488355328) :
    Calls Try.prog 12 #[v1, v2] w fun x w' => x = .returned (.bool (decide (d = e))) ∧ Below w.heap.size w w' := by
  obtain ⟨A, c, rfl, hc, hra⟩ := h1
  obtain ⟨B, k, rfl, hd, hrb⟩ := h2
  have hB0 : Below w.heap.size w ((w.alloc (poolBox d A d.devs.length c)).alloc (poolBox e B e.devs.length k)) :=
    ((Below.refl _ _).alloc (Nat.le_refl _) _).alloc (by simp) _
  have hm := eqDevs_any ((w.alloc (poolBox d A d.devs.length c)).alloc (poolBox e B e.devs.length k)) S1 S2 _ _ d.devs e.devs (fun b hb => by have := hS1 b hb; simp; omega) (fun b hb => by have := hS2 b hb; simp; omega) ⟨A, c, rfl, hc, hra.keep rdev_stable (fun _ h => h) (keep_below hB0 hS1)⟩ ⟨B, k, rfl, hd, hrb.keep rdev_stable (fun _ h => h) (keep_below hB0 hS2)⟩ hn hm
  dsimp only [poolBox] at hm hB0
  have HM := Lib.hid hm
  have HD := Lib.hid (pool_dec d e)
  clear hm hra hrb hn hc hd
  by_cases g1 : d.tx = e.tx
  · skip
    by_cases g2 : d.time = e.time
    · skip
      by_cases g3 : d.unit = e.unit
      · skip
        by_cases g4 : d.data = e.data
        · skip
          have HE : Hid (decide (d = e) = decide (d.devs = e.devs)) := Lib.hid (by rw [HD.out]; simp [g1, g2, g3, g4])
          have b1 : (d.tx == e.tx) = true := by simp [g1]
          have b2 : (d.time == e.time) = true := by simp [g2]
          have b3 : (d.unit == e.unit) = true := by simp [g3]
          have b4 : (d.data == e.data) = true := by simp [g4]
          clear HD g1 g2 g3 g4
          go_enter Try.func12, Try.ntmps12
          go_wp2_with (go_at_call 33; refine HM.out.mono ?_; rintro x w2 ⟨rfl, hB2⟩)
          go_ret
          exact ⟨by rw [HE.out]; rfl, hB0.trans (hB2.mono (by simp; omega))⟩
        · have HE : Hid (decide (d = e) = false) := Lib.hid (by rw [HD.out]; simp [g4])
          have b1 : (d.tx == e.tx) = true := by simp [g1]
          have b2 : (d.time == e.time) = true := by simp [g2]
          have b3 : (d.unit == e.unit) = true := by simp [g3]
          have b4 : (d.data == e.data) = false := by simp [g4]
          clear HD HM g1 g2 g3 g4
          go_enter Try.func12, Try.ntmps12
          go_wp2
          go_ret
          exact ⟨by rw [HE.out]; rfl, hB0⟩
      · have HE : Hid (decide (d = e) = false) := Lib.hid (by rw [HD.out]; simp [g3])
        have b1 : (d.tx == e.tx) = true := by simp [g1]
        have b2 : (d.time == e.time) = true := by simp [g2]
        have b3 : (d.unit == e.unit) = false := by simp [g3]
        clear HD HM g1 g2 g3
        go_enter Try.func12, Try.ntmps12
        go_wp2
        go_ret
        exact ⟨by rw [HE.out]; rfl, hB0⟩
    · have HE : Hid (decide (d = e) = false) := Lib.hid (by rw [HD.out]; simp [g2])
      have b1 : (d.tx == e.tx) = true := by simp [g1]
      have b2 : (d.time == e.time) = false := by simp [g2]
      clear HD HM g1 g2
      go_enter Try.func12, Try.ntmps12
      go_wp2
      go_ret
      exact ⟨by rw [HE.out]; rfl, hB0⟩
  · have HE : Hid (decide (d = e) = false) := Lib.hid (by rw [HD.out]; simp [g1])
    have b1 : (d.tx == e.tx) = false := by simp [g1]
    clear HD HM g1
    go_enter Try.func12, Try.ntmps12
    go_wp2
    go_ret
    exact ⟨by rw [HE.out]; rfl, hB0⟩
end Go.Proofs.Ytlanffolgkpmkaa
