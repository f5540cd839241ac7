/- delta.Check and scantlingref39.Check return chk of the mappings, for any slice of mappings; nothing that was there changes. -/
import Derived.Test.YtecnkeakmedgnaaProg
import Derived.Test.YtecnkeakmedgnaaMap
import Derived.Deep.QuietTactic
import Derived.BigQuiet
import Derived.Outline
namespace Go.Proofs.Ytecnkeakmedgnaa
open Go.RowKit

set_option maxHeartbeats 400000 in
theorem refChk (w : World) (S : Nat → Prop) (v : Value) (l : List Mp) (hn : l.length ≤ 140737488355328) (h : IsMaps w S v l) :
    Calls Try.prog 26 #[v] w fun e w' => e = .returned (.int .i64 (chk l)) ∧ ∃ m, w' = w.drewN m := by
  obtain ⟨A, c, rfl, _, hr⟩ := h
  generalize hl0 : l.length = n at *
  have hl := Lib.hid hl0
  clear hl0
  go_enter Try.func26, Try.ntmps26
  go_wp2_with fail
  go_loopw [3] (fun i wr => ∃ k : Nat, k ≤ n ∧ i = .int .i64 k ∧ (∃ m, wr = w.drewN m) ∧ ChkAt l k) (fun i _ => n - (intOf i).toNat)
  case atStart => exact ⟨0, by omega, rfl, ⟨0, rfl⟩, ChkAt.zero l⟩
  case round =>
    obtain ⟨k, hk, rfl, ⟨m, rfl⟩, hA⟩ := hrel
    by_cases hlt : k < n
    · obtain ⟨b, off, rfl, hb, hc⟩ := maps_cells hr (by rw [hl.out]; omega)
      obtain ⟨c0, c1, c2⟩ := hc k (by rw [hl.out]; omega)
      have hlt' := hlt
      rw [← hl.out] at hlt'
      have HA := Lib.hid hA
      clear hA
      by_cases h0 : 0 < k
      · obtain ⟨d0, d1, d2⟩ := hc (k - 1) (by rw [hl.out]; omega)
        have HL := Lib.hid (lastV_pos l h0)
        have hd : decide ((0 : Int) < (k : Int)) = true := by simp; omega
        have h1 : ((k : Int) - 1).toNat = k - 1 := by omega
        clear hc
        go_wp2_with fail
        any_goals (go_quiet (fail); go_wp2)
        all_goals first
          | (go_ret; exact ⟨ret_int (HA.out.range hlt' (by omega)).symm, by first | exact ⟨_, rfl⟩ | exact dr2 _ _ _⟩)
          | (go_ret; exact ⟨ret_int (HA.out.order hlt' (by omega) (by omega) (by rw [HL.out]; omega)).symm, by first | exact ⟨_, rfl⟩ | exact dr2 _ _ _⟩)
          | (go_roundw
             case rel => exact ⟨k + 1, by omega, by go_num, by first | exact ⟨_, rfl⟩ | exact dr2 _ _ _, HA.out.next hlt' (by omega) (by omega) (by rw [HL.out]; omega)⟩
             case measure => simp [intOf]; omega)
      · have hd : decide ((0 : Int) < (k : Int)) = false := by simp; omega
        have HL : Hid (lastV l k = -1) := by obtain rfl : k = 0 := by omega
                                             rfl
        clear hc
        go_wp2_with fail
        any_goals (go_quiet (fail); go_wp2)
        all_goals first
          | (go_ret; exact ⟨ret_int (HA.out.range hlt' (by omega)).symm, by first | exact ⟨_, rfl⟩ | exact dr2 _ _ _⟩)
          | (go_roundw
             case rel => exact ⟨k + 1, by omega, by go_num, by first | exact ⟨_, rfl⟩ | exact dr2 _ _ _, HA.out.next hlt' (by omega) (by omega) (by rw [HL.out]; omega)⟩
             case measure => simp [intOf]; omega)
    · go_wp2
      go_ret
      exact ⟨ret_int (hA.done (by rw [hl.out]; omega)).symm, m, rfl⟩

set_option maxHeartbeats 400000 in
theorem proChk (w : World) (S : Nat → Prop) (v : Value) (l : List Mp) (hS : ∀ b, S b → b < w.heap.size) (hn : l.length ≤ 140737488355328) (h : IsMaps w S v l) :
    Calls Try.prog 15 #[v] w fun e w' => e = .returned (.int .i64 (chk l)) ∧ Below w.heap.size w w' := by
  obtain ⟨A, c, rfl, _, hr⟩ := h
  generalize hl0 : l.length = n at *
  have hl := Lib.hid hl0
  clear hl0
  go_enter Try.func15, Try.ntmps15
  go_wp2_with fail
  go_loopw [3, 8] (fun last i wr => ∃ k : Nat, k ≤ n ∧ i = .int .i64 k ∧ last = .int .i64 (lastV l k) ∧ Below w.heap.size w wr ∧ ChkAt l k) (fun _ i _ => n - (intOf i).toNat)
  case atStart => exact ⟨0, by omega, rfl, rfl, Below.refl _ _, ChkAt.zero l⟩
  case round =>
    obtain ⟨k, hk, rfl, rfl, hB, hA⟩ := hrel
    by_cases hlt : k < n
    · obtain ⟨b, off, rfl, hb, hc⟩ := maps_cells (hr.keep rmp_stable (fun _ h => h) (keep_below hB hS)) (by rw [hl.out]; omega)
      obtain ⟨c0, c1, c2⟩ := hc k (by rw [hl.out]; omega)
      have hlt' := hlt
      rw [← hl.out] at hlt'
      have HA := Lib.hid hA
      have hbs : b < wr.heap.size := by have := hS b hb; have := hB.size; omega
      clear hA hc
      have HB := hB.alloc hB.size (.cells #[.int .i64 (nth mp0 l k).v, .int .i64 (nth mp0 l k).b, .int .i64 (nth mp0 l k).t] 41)
      go_wp2
      all_goals first
        | (go_ret; exact ⟨ret_int (HA.out.range hlt' (by omega)).symm, HB⟩)
        | (go_ret; exact ⟨ret_int (HA.out.order hlt' (by omega) (by omega) (by omega)).symm, HB⟩)
        | (go_roundw
           case rel => exact ⟨k + 1, by omega, by go_num, by rw [lastV_succ], HB, HA.out.next hlt' (by omega) (by omega) (by omega)⟩
           case measure => simp [intOf]; omega)
    · go_wp2
      go_ret
      exact ⟨ret_int (hA.done (by rw [hl.out]; omega)).symm, hB⟩
end Go.Proofs.Ytecnkeakmedgnaa
