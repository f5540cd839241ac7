/- delta.Sum returns the sum of the parts of a kind. Condition: the sum is far from the end of Go's int. -/
import Derived.Test.YtecnkeakmedgnaaProg
import Derived.Test.YtecnkeakmedgnaaTurns
import Derived.Deep.QuietTactic
import Derived.BigQuiet
import Derived.Outline
namespace Go.Proofs.Ytecnkeakmedgnaa
open Go.RowKit

theorem sumK_take (kd : Int) (l : List Pt) (k : Nat) (h : k < l.length) : sumK kd (l.take (k + 1)) = sumK kd (l.take k) + if (nth pt0 l k).k = kd then (nth pt0 l k).n else 0 := by
  rw [take_nth pt0 l k h, sumK_append]; simp [sumK]
theorem sumK_bound {c : Nat} (kd : Int) : ∀ {l : List Pt}, Small c l → 0 ≤ sumK kd l ∧ sumK kd l ≤ l.length * c := by
  intro l
  induction l with
  | nil => intro _; simp [sumK]
  | cons p l ih =>
    intro h
    have hp := h p (by simp)
    have := ih (fun q hq => h q (by simp [hq]))
    simp only [sumK, List.length_cons]
    rw [show ((l.length + 1 : Nat) : Int) * (c : Int) = (l.length : Int) * c + c from by rw [Int.natCast_add, Int.add_mul]; omega]
    split <;> omega
theorem Small.take {c : Nat} {l : List Pt} (h : Small c l) (k : Nat) : Small c (l.take k) := fun p hp => h p (List.mem_of_mem_take hp)

set_option maxHeartbeats 800000 in
theorem sum_any (w : World) (S : Nat → Prop) (v : Value) (l : List Pt) (kd : Int) (c0 : Nat) (hS : ∀ b, S b → b < w.heap.size) (h : IsParts w S v l) (hs : Small c0 l) (hn : l.length ≤ 1048576) (hc0 : c0 ≤ 1048576) :
    Calls Try.prog 17 #[v, .int .i64 kd] w fun e w' => e = .returned (.int .i64 (sumK kd l)) ∧ Below w.heap.size w w' := by
  obtain ⟨A, c, rfl, _, hr⟩ := h
  generalize hl0 : l.length = n at *
  have hl := Lib.hid hl0
  clear hl0
  go_enter Try.func17, Try.ntmps17
  go_wp2_with fail
  go_loopw [5, 10] (fun t i wr => ∃ k : Nat, k ≤ n ∧ i = .int .i64 k ∧ t = .int .i64 (sumK kd (l.take k)) ∧ Below w.heap.size w wr) (fun _ i _ => n - (intOf i).toNat)
  case atStart => exact ⟨0, by omega, rfl, rfl, Below.refl _ _⟩
  case round =>
    obtain ⟨k, hk, rfl, rfl, hB⟩ := hrel
    have hb := sumK_bound kd (hs.take k)
    have hlen : (l.take k).length ≤ 1048576 := by rw [List.length_take]; omega
    have hmul : ((l.take k).length : Int) * (c0 : Int) ≤ 1048576 * 1048576 := by
      have := Nat.mul_le_mul hlen hc0
      have h2 : (((l.take k).length * c0 : Nat) : Int) ≤ ((1048576 * 1048576 : Nat) : Int) := by omega
      rw [Int.natCast_mul] at h2
      omega
    have hs0 : 0 ≤ sumK kd (l.take k) := hb.1
    have hs1 : sumK kd (l.take k) ≤ 1099511627776 := by omega
    clear hb hmul hlen
    by_cases hlt : k < n
    · obtain ⟨b, off, rfl, hbS, hc⟩ := parts_cells (hr.keep rpt_stable (fun _ h => h) (keep_below hB hS)) (by rw [hl.out]; omega)
      obtain ⟨c0', c1, c2⟩ := hc k (by rw [hl.out]; omega)
      have hp := hs _ (nth_mem pt0 l k (by rw [hl.out]; omega))
      have hst := Lib.hid (sumK_take kd l k (by rw [hl.out]; omega))
      have hp1 : 1 ≤ (nth pt0 l k).n := hp.2.2.1
      have hp2 : (nth pt0 l k).n ≤ 1048576 := by have := hp.2.2.2; omega
      clear hc hp
      have HB := hB.alloc hB.size (.cells #[.int .i64 (nth pt0 l k).k, .int .i64 (nth pt0 l k).v, .int .i64 (nth pt0 l k).n] 59)
      by_cases hkd : (nth pt0 l k).k = kd
      · have hkb : ((nth pt0 l k).k == kd) = true := by simp [hkd]
        have HK := Lib.hid hkd
        clear hkd
        go_wp2
        go_roundw
        case rel => exact ⟨k + 1, by omega, by go_num, by rw [hst.out, if_pos HK.out], HB⟩
        case measure => simp [intOf]; omega
      · have hkb : ((nth pt0 l k).k == kd) = false := by simp [hkd]
        have HK := Lib.hid hkd
        clear hkd
        go_wp2
        go_roundw
        case rel => exact ⟨k + 1, by omega, by go_num, by rw [hst.out, if_neg HK.out, Int.add_zero], HB⟩
        case measure => simp [intOf]; omega
    · have hfin : Hid (l.take k = l) := List.take_of_length_le (by rw [hl.out]; omega)
      go_wp2
      go_ret
      exact ⟨ret_int (by rw [hfin.out]), hB⟩
end Go.Proofs.Ytecnkeakmedgnaa
