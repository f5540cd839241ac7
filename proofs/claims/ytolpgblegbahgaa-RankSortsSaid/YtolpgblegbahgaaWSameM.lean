/- scantlingref18.SameMaps: whether two lists are the same. Condition: no slice is longer than the reach. -/
import Derived.Test.YtolpgblegbahgaaProg
import Derived.Test.YtolpgblegbahgaaMap
import Derived.Deep.QuietTactic
import Derived.BigQuiet
import Derived.Outline
namespace Go.Proofs.Ytolpgblegbahgaa
open Go.RowKit

deriving instance DecidableEq for Mp
theorem eq_of_nth {α : Type} (d : α) {a b : List α} (h : a.length = b.length) (he : ∀ j, j < a.length → nth d a j = nth d b j) : a = b := by
  refine List.ext_getElem h fun i h1 h2 => ?_
  have := he i h1
  unfold nth at this
  simpa [List.getD, h1, h2] using this

theorem mp_ext {x y : Mp} (h1 : x.v = y.v) (h2 : x.b = y.b) (h3 : x.t = y.t) : x = y := by cases x; cases y; simp_all

set_option maxHeartbeats 800000 in
theorem rsameMaps_any (w : World) (S1 S2 : Nat → Prop) (v1 v2 : Value) (a b : List Mp) (h1 : IsMaps w S1 v1 a) (h2 : IsMaps w S2 v2 b) (hn : a.length ≤ 140737488355328) :
    Calls Try.prog 41 #[v1, v2] w fun e w' => e = .returned (.bool (decide (a = b))) ∧ ∃ m, w' = w.drewN m := by
  obtain ⟨A, c, rfl, hc, hra⟩ := h1
  obtain ⟨B, d, rfl, hd, hrb⟩ := h2
  by_cases hl : b.length = a.length
  · rw [hl]
    generalize hna : a.length = n at *
    have HA := Lib.hid hna
    have HL := Lib.hid hl
    clear hna hl hc hd
    go_enter Try.func41, Try.ntmps41
    go_wp2_with fail
    go_loopw [5] (fun i wr => ∃ k : Nat, i = .int .i64 k ∧ k ≤ n ∧ (∀ j, j < k → nth mp0 a j = nth mp0 b j) ∧ ∃ m, wr = w.drewN m) (fun i _ => n - (intOf i).toNat)
    case atStart => exact ⟨0, rfl, by omega, fun j hj => absurd hj (by omega), 0, rfl⟩
    case round =>
      obtain ⟨k, rfl, hk, hsm, m, rfl⟩ := hrel
      have HS := Lib.hid hsm
      clear hsm
      by_cases hlt : k < n
      · obtain ⟨ba, oa, rfl, hba, hca⟩ := maps_cells hra (by rw [HA.out]; omega)
        obtain ⟨a0, a1, a2⟩ := hca k (by rw [HA.out]; exact hlt)
        obtain ⟨bb, ob, rfl, hbb, hcb⟩ := maps_cells hrb (by rw [HL.out]; omega)
        obtain ⟨b0, b1, b2⟩ := hcb k (by rw [HL.out]; exact hlt)
        clear hca hcb
        by_cases hx : nth mp0 a k = nth mp0 b k
        · have hS2 : ∀ j, j < k + 1 → nth mp0 a j = nth mp0 b j := fun j hj => by
            by_cases e : j = k
            · rw [e]; exact hx
            · exact HS.out j (by omega)
          have HS2 := Lib.hid hS2
          rw [← hx] at b0 b1 b2
          clear hx hS2 HS
          generalize nth mp0 a k = x1 at *
          go_wp2_with fail
          go_quiet (fail)
          go_wp2_with fail
          go_roundw
          case rel => exact ⟨k + 1, by go_num, by omega, HS2.out, by first | exact ⟨_, rfl⟩ | exact dr2 _ _ _⟩
          case measure => simp [intOf]; omega
        · have hne : a ≠ b := fun e => hx (by rw [e])
          have HE := Lib.hid (decide_eq_false hne)
          have hx3 : ¬ ((nth mp0 a k).v = (nth mp0 b k).v ∧ (nth mp0 a k).b = (nth mp0 b k).b ∧ (nth mp0 a k).t = (nth mp0 b k).t) := fun h => hx (mp_ext h.1 h.2.1 h.2.2)
          clear hne HS hx
          generalize nth mp0 a k = x1 at *
          generalize nth mp0 b k = x2 at *
          by_cases g1 : x1.v = x2.v
          · by_cases g2 : x1.b = x2.b
            · have g3 : ¬ x1.t = x2.t := fun h => hx3 ⟨g1, g2, h⟩
              rw [← g1] at b0
              rw [← g2] at b1
              clear hx3 g1 g2
              go_wp2_with fail
              go_quiet (fail)
              go_wp2_with fail
              refine bodyPost_ret (results_tmp rfl _ _ _) rfl ?_
              exact ⟨by rw [HE.out]; rfl, dr2 _ _ _⟩
            · rw [← g1] at b0
              clear hx3 g1
              go_wp2_with fail
              go_quiet (fail)
              go_wp2_with fail
              refine bodyPost_ret (results_tmp rfl _ _ _) rfl ?_
              exact ⟨by rw [HE.out]; rfl, dr2 _ _ _⟩
          · clear hx3
            go_wp2_with fail
            go_quiet (fail)
            go_wp2_with fail
            refine bodyPost_ret (results_tmp rfl _ _ _) rfl ?_
            exact ⟨by rw [HE.out]; rfl, dr2 _ _ _⟩
      · have he : a = b := eq_of_nth mp0 (by rw [HA.out, HL.out]) (fun j hj => HS.out j (by rw [HA.out] at hj; omega))
        have HE := Lib.hid (decide_eq_true he)
        clear he HS
        go_wp2_with fail
        go_ret
        exact ⟨by rw [HE.out]; rfl, _, rfl⟩
  · have hne : a ≠ b := fun e => hl (by rw [e])
    have HE := Lib.hid (decide_eq_false hne)
    have hl2 : ¬ a.length = b.length := fun e => hl e.symm
    clear hne
    generalize a.length = n1 at *
    generalize b.length = n2 at *
    go_enter Try.func41, Try.ntmps41
    go_wp2_with fail
    go_ret
    exact ⟨by rw [HE.out]; rfl, 0, rfl⟩
end Go.Proofs.Ytolpgblegbahgaa
