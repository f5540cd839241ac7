/- pool.Count: how many mappings a pool has. Condition: the sum is far from the end of Go's int. -/
import Derived.Test.YtolpgblegbahgaaProg
import Derived.Test.YtolpgblegbahgaaPool
import Derived.Deep.QuietTactic
import Derived.BigQuiet
import Derived.Outline
namespace Go.Proofs.Ytolpgblegbahgaa
open Go.RowKit
set_option maxHeartbeats 800000 in
theorem count_any (w : World) (S : Nat → Prop) (v : Value) (p : Pool) (hS : ∀ b, S b → b < w.heap.size) (h : IsPool w S v p) (hn : p.devs.length ≤ 1099511627776) (hc0 : p.count ≤ 4611686018427387904) :
    Calls Try.prog 27 #[v] w fun e w' => e = .returned (.int .i64 p.count) ∧ Below w.heap.size w w' := by
  obtain ⟨A, c, rfl, _, hr⟩ := h
  generalize hl0 : p.devs.length = n at *
  have hl := Lib.hid hl0
  clear hl0
  have hB0 : Below w.heap.size w (w.alloc (.cells #[.int .i64 p.tx, .int .i64 p.time, .int .i64 p.unit, .int .i64 p.data, .slice A n c] 31)) := (Below.refl _ _).alloc (Nat.le_refl _) _
  go_enter Try.func27, Try.ntmps27
  go_wp2_with fail
  go_loopw [3, 9] (fun t i wr => ∃ k : Nat, k ≤ n ∧ i = .int .i64 k ∧ t = .int .i64 (countL (p.devs.take k)) ∧ Below w.heap.size w wr) (fun _ i _ => n - (intOf i).toNat)
  case atStart => exact ⟨0, by omega, rfl, rfl, hB0⟩
  case round =>
    obtain ⟨k, hk, rfl, rfl, hB⟩ := hrel
    have hs0 := countL_nonneg (p.devs.take k)
    by_cases hlt : k < n
    · obtain ⟨b, off, rfl, hb, hc⟩ := devs_cells (hr.keep rdev_stable (fun _ h => h) (keep_below hB hS)) (by rw [hl.out]; omega)
      obtain ⟨c0, c1, c2, c3, A', c', c4, hc', hr'⟩ := hc k (by rw [hl.out]; omega)
      have HT := Lib.hid (countL_take p.devs k (by rw [hl.out]; omega))
      have hle := countL_take_le p.devs (k + 1)
      rw [HT.out] at hle
      have hbs : b < wr.heap.size := by have := hS b hb; have := hB.size; omega
      have hs1 : countL (p.devs.take k) + ((nth dev0 p.devs k).maps.length : Int) ≤ 4611686018427387904 := Int.le_trans hle hc0
      clear hc hr' hle
      have HB := hB.alloc hB.size (.cells #[.int .i64 (nth dev0 p.devs k).id, .int .i64 (nth dev0 p.devs k).tx, .int .i64 (nth dev0 p.devs k).made, .int .i64 (nth dev0 p.devs k).snapped, .slice A' (nth dev0 p.devs k).maps.length c'] 50)
      go_wp2
      go_roundw
      case rel => exact ⟨k + 1, by omega, by go_num, by rw [HT.out], HB⟩
      case measure => simp [intOf]; omega
    · have hfin : Hid (p.devs.take k = p.devs) := List.take_of_length_le (by rw [hl.out]; omega)
      go_wp2
      go_ret
      exact ⟨ret_int (by rw [hfin.out]; rfl), hB⟩
end Go.Proofs.Ytolpgblegbahgaa
