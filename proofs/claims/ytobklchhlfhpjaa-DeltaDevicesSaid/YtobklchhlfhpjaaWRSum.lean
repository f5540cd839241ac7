/- scantlingref39.Sum returns the sum of the parts of a kind. Condition: the sum is far from the end of Go's int. -/
import Derived.Test.YtobklchhlfhpjaaWSum
namespace Go.Proofs.Ytobklchhlfhpjaa
open Go.RowKit

set_option maxHeartbeats 800000 in
theorem rsum_any (w : World) (S : Nat → Prop) (v : Value) (l : List Pt) (kd : Int) (c0 : Nat) (h : IsParts w S v l) (hs : Small c0 l) (hn : l.length ≤ 1048576) (hc0 : c0 ≤ 1048576) :
    Calls Try.prog 10 #[v, .int .i64 kd] w fun e w' => e = .returned (.int .i64 (sumK kd l)) ∧ w = w' := by
  obtain ⟨A, c, rfl, _, hr⟩ := h
  generalize hl0 : l.length = n at *
  have hl := Lib.hid hl0
  clear hl0
  go_enter Try.func10, Try.ntmps10
  go_wp2_with fail
  go_loop [5, 6] (fun t i => ∃ k : Nat, k ≤ n ∧ i = .int .i64 k ∧ t = .int .i64 (sumK kd (l.take k))) (fun _ i => n - (intOf i).toNat)
  case atStart => exact ⟨0, by omega, rfl, rfl⟩
  case round =>
    obtain ⟨k, hk, rfl, rfl⟩ := hrel
    have hb := sumK_bound kd (hs.take k)
    have hlen : (l.take k).length ≤ 1048576 := by rw [List.length_take]; omega
    have hmul : ((l.take k).length : Int) * (c0 : Int) ≤ 1048576 * 1048576 := by
      have := Nat.mul_le_mul hlen hc0
      have h2 : (((l.take k).length * c0 : Nat) : Int) ≤ ((1048576 * 1048576 : Nat) : Int) := by omega
      rw [Int.natCast_mul] at h2
      omega
    have hs0 : 0 ≤ sumK kd (l.take k) := hb.1
    have hs1 : sumK kd (l.take k) ≤ 1099511627776 := by omega
    clear hb hmul hlen
    by_cases hlt : k < n
    · obtain ⟨b, off, rfl, hbS, hc⟩ := parts_cells hr (by rw [hl.out]; omega)
      obtain ⟨c0', c1, c2⟩ := hc k (by rw [hl.out]; omega)
      have hp := hs _ (nth_mem pt0 l k (by rw [hl.out]; omega))
      have hst := Lib.hid (sumK_take kd l k (by rw [hl.out]; omega))
      have hp1 : 1 ≤ (nth pt0 l k).n := hp.2.2.1
      have hp2 : (nth pt0 l k).n ≤ 1048576 := by have := hp.2.2.2; omega
      clear hc hp
      by_cases hkd : (nth pt0 l k).k = kd
      · have hkb : ((nth pt0 l k).k == kd) = true := by simp [hkd]
        have HK := Lib.hid hkd
        clear hkd
        go_wp2
        go_round
        case rel => exact ⟨k + 1, by omega, by go_num, by rw [hst.out, if_pos HK.out]⟩
        case measure => simp [intOf]; omega
      · have hkb : ((nth pt0 l k).k == kd) = false := by simp [hkd]
        have HK := Lib.hid hkd
        clear hkd
        go_wp2
        go_round
        case rel => exact ⟨k + 1, by omega, by go_num, by rw [hst.out, if_neg HK.out, Int.add_zero]⟩
        case measure => simp [intOf]; omega
    · have hfin : Hid (l.take k = l) := List.take_of_length_le (by rw [hl.out]; omega)
      go_wp2
      go_ret
      exact ⟨ret_int (by rw [hfin.out]), rfl⟩
end Go.Proofs.Ytobklchhlfhpjaa
