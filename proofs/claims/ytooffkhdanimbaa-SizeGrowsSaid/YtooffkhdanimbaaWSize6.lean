/- size.Bitmaps, scantlingref20.Bitmaps, size.sum. Condition: the numbers are far from the end of Go's int. -/
import Derived.Test.YtooffkhdanimbaaWSize5
namespace Go.Proofs.Ytooffkhdanimbaa
open Go.RowKit

def bitsN (n : Int) : Int := if n < 1 then 0 else (n - 1) / 960 + 1
theorem bitmaps_any (w : World) (n : Int) (h : n ≤ 1099511627776) : Calls Try.prog 8 #[.int .i64 n] w fun e w' => e = .returned (.int .i64 (bitsN n)) ∧ w = w' := by
  by_cases h1 : n < 1
  · have e : bitsN n = 0 := by unfold bitsN; rw [if_pos h1]
    rw [e]
    go_enter Try.func8, Try.ntmps8
    go_wp2
    go_ret
    exact ⟨rfl, rfl⟩
  · have e : bitsN n = (n - 1) / 960 + 1 := by unfold bitsN; rw [if_neg h1]
    rw [e]
    go_enter Try.func8, Try.ntmps8
    go_wp2
    go_ret
    exact ⟨rfl, rfl⟩
theorem rbitmaps_any (w : World) (n : Int) (h : n ≤ 1099511627776) : Calls Try.prog 9 #[.int .i64 n] w fun e w' => e = .returned (.int .i64 (bitsN n)) ∧ w = w' := by
  by_cases h1 : n < 1
  · have e : bitsN n = 0 := by unfold bitsN; rw [if_pos h1]
    rw [e]
    go_enter Try.func9, Try.ntmps9
    go_wp2
    go_ret
    exact ⟨rfl, rfl⟩
  · have e : bitsN n = (n + 960 - 1) / 960 := by unfold bitsN; rw [if_neg h1]; omega
    rw [e]
    go_enter Try.func9, Try.ntmps9
    go_wp2
    go_ret
    exact ⟨rfl, rfl⟩
set_option maxHeartbeats 1600000 in
theorem sumv_any (w : World) (S : Nat → Prop) (v : Value) (l : List Int) (h : IsInts w S v l) (hn : l.length ≤ 1048576) (hp : ∀ x ∈ l, 0 ≤ x ∧ x ≤ 1099511627776) :
    Calls Try.prog 19 #[v] w fun e w' => e = .returned (.int .i64 (sumL l)) ∧ w = w' := by
  obtain ⟨A, c, rfl, _, hr⟩ := h
  have hb : ∀ k, k ≤ l.length → 0 ≤ sumL (l.take k) ∧ sumL (l.take k) ≤ k * 1099511627776 := by
    intro k
    induction k with
    | zero => intro _; simp [sumL]
    | succ k ih =>
      intro hk
      have h1 := ih (by omega)
      have h2 := hp _ (nth_mem 0 l k (by omega))
      rw [sumL_take l k (by omega)]
      omega
  generalize hll : l.length = m at *
  have HL := Lib.hid hll
  have HB := Lib.hid hb
  have HP := Lib.hid hp
  clear hll hb hp
  go_enter Try.func19, Try.ntmps19
  go_wp2_with fail
  go_loop [3, 8] (fun a i => ∃ k : Nat, k ≤ m ∧ i = .int .i64 k ∧ a = .int .i64 (sumL (l.take k))) (fun _ i => m - (intOf i).toNat)
  case atStart => exact ⟨0, by omega, rfl, rfl⟩
  case round =>
    obtain ⟨k, hk, rfl, rfl⟩ := hrel
    obtain ⟨s0, s1⟩ := HB.out k hk
    by_cases hlt : k < m
    · obtain ⟨b, off, rfl, hb, hcl⟩ := ints_cells hr (by rw [HL.out]; omega)
      have q := hcl k (by rw [HL.out]; exact hlt)
      have HT := Lib.hid (sumL_take l k (by rw [HL.out]; exact hlt))
      have q3 := HP.out _ (nth_mem 0 l k (by rw [HL.out]; exact hlt))
      clear hcl
      generalize nth 0 l k = y at *
      generalize sumL (l.take k) = z at *
      go_wp2_with fail
      go_round
      case rel => exact ⟨k + 1, by omega, by go_num, by rw [HT.out]⟩
      case measure => simp [intOf]; omega
    · have hfin : Hid (l.take k = l) := List.take_of_length_le (by rw [HL.out]; omega)
      go_wp2_with fail
      go_ret
      exact ⟨by rw [hfin.out]; rfl, rfl⟩
end Go.Proofs.Ytooffkhdanimbaa
