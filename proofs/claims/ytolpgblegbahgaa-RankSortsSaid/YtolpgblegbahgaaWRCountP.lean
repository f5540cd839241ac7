/- scantlingref18.Count alone. Conditions: the numbers fit into Go's int, no slice is longer than the reach. -/
import Derived.Test.YtolpgblegbahgaaWFew
import Derived.Test.YtolpgblegbahgaaWCount
namespace Go.Proofs.Ytolpgblegbahgaa
open Go.RowKit

set_option maxHeartbeats 800000 in
theorem rcount_any (w : World) (S : Nat → Prop) (v : Value) (p : Pool) (hS : ∀ b, S b → b < w.heap.size) (h : IsPool w S v p) (hn : p.devs.length ≤ 1099511627776) (hc0 : p.count ≤ 4611686018427387904) :
    Calls Try.prog 31 #[v] w fun e w' => e = .returned (.int .i64 p.count) ∧ Below w.heap.size w w' := by
  obtain ⟨A, c, rfl, _, hr⟩ := h
  generalize hl0 : p.devs.length = n at *
  have hl := Lib.hid hl0
  clear hl0
  have hB0 : Below w.heap.size w (w.alloc (poolBox p A n c)) := (Below.refl _ _).alloc (Nat.le_refl _) _
  go_enter Try.func31, Try.ntmps31
  go_wp2_with fail
  go_loop [3, 4] (fun t i => ∃ k : Nat, k ≤ n ∧ i = .int .i64 k ∧ t = .int .i64 (countL (p.devs.take k))) (fun _ i => n - (intOf i).toNat)
  case atStart => exact ⟨0, by omega, rfl, rfl⟩
  case round =>
    obtain ⟨k, hk, rfl, rfl⟩ := hrel
    have hs0 := countL_nonneg (p.devs.take k)
    by_cases hlt : k < n
    · obtain ⟨b, off, rfl, hb, hc⟩ := devs_cells (hr.keep rdev_stable (fun _ h => h) (keep_below hB0 hS)) (by rw [hl.out]; omega)
      obtain ⟨c0, c1, c2, c3, A', c', c4, hc', hr'⟩ := hc k (by rw [hl.out]; omega)
      have HT := Lib.hid (countL_take p.devs k (by rw [hl.out]; omega))
      have hle := countL_take_le p.devs (k + 1)
      rw [HT.out] at hle
      have hbs := hS b hb
      have hs1 : countL (p.devs.take k) + ((nth dev0 p.devs k).maps.length : Int) ≤ 4611686018427387904 := Int.le_trans hle hc0
      clear hc hr' hle
      go_wp2
      go_round
      case rel => exact ⟨k + 1, by omega, by go_num, by rw [HT.out]⟩
      case measure => simp [intOf]; omega
    · have hfin : Hid (p.devs.take k = p.devs) := List.take_of_length_le (by rw [hl.out]; omega)
      go_wp2
      go_ret
      exact ⟨ret_int (by rw [hfin.out]; rfl), hB0⟩

end Go.Proofs.Ytolpgblegbahgaa
