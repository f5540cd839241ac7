/- view.Usage, scantlingref38.Usage: how many data blocks are used, shared, free. Condition: the numbers fit into Go's int, and no slice is longer than the reach. -/
import Derived.Test.YtnemfponbadcjaaViewP
namespace Go.Proofs.Ytnemfponbadcjaa
open Go.RowKit

theorem refsRes_length {p : Pool} : (refsRes p).length ≤ 65536 := by
  unfold refsRes
  by_cases h : poolChk p = 0
  · rw [if_pos h]
    unfold refsOf
    rw [bumps_length, List.length_replicate]
    obtain ⟨q1, _⟩ := poolChk_parts h
    have hdat : 0 ≤ p.data ∧ p.data ≤ 65536 := by simp [headB] at q1; exact inB_iff.1 q1.2.2
    omega
  · rw [if_neg h]; simp
set_option maxRecDepth 100000 in
set_option maxHeartbeats 1600000 in
theorem usage_any (w : World) (S : Nat → Prop) (v : Value) (p : Pool) (hS : ∀ b, S b → b < w.heap.size) (h : IsPool w S v p) (hok : p.ok) :
    Calls Try.prog 11 #[v] w fun e w' => e = .returned (.tuple #[.int .i64 (cntG 0 (refsRes p)), .int .i64 (cntG 1 (refsRes p)), .int .i64 ((refsRes p).length - cntG 0 (refsRes p))]) ∧ Below w.heap.size w w' := by
  have h0 := h
  obtain ⟨A, c, rfl, hc, hr⟩ := h
  have hB1 : Below w.heap.size w (w.alloc (poolBox p A p.devs.length c)) := (Below.refl _ _).alloc (Nat.le_refl _) _
  have hrf := refs_any (w.alloc (poolBox p A p.devs.length c)) S _ p (fun b hb => by have := hS b hb; simp; omega) (h0.below hB1 hS) hok
  have HRF := Lib.hid hrf
  have hll := refsRes_length (p := p)
  clear hrf hr h0
  generalize refsRes p = l at *
  generalize hln : l.length = n at *
  have HLN := Lib.hid hln
  clear hln
  dsimp only [poolBox] at hB1 HRF
  go_enter Try.func11, Try.ntmps11
  go_wp2_with (go_at_call 26; refine HRF.out.mono ?_; rintro e w2 ⟨v2, rfl, ⟨A2, c2, rfl, hc2, hr2⟩, hB2⟩; rw [HLN.out] at hc2 ⊢; have hk2 := hB1.trans (hB2.mono (by simp)))
  go_loop [5, 6, 7, 13] (fun a b c i => ∃ k : Nat, k ≤ n ∧ i = .int .i64 k ∧ a = .int .i64 (cntG 0 (l.take k)) ∧ b = .int .i64 (cntG 1 (l.take k)) ∧ c = .int .i64 (k - cntG 0 (l.take k))) (fun _ _ _ i => n - (intOf i).toNat)
  case atStart => exact ⟨0, by omega, rfl, rfl, rfl, rfl⟩
  case round =>
    obtain ⟨k, hk, rfl, rfl, rfl, rfl⟩ := hrel
    have b0 := cntG_bound 0 (l.take k)
    have b1 := cntG_bound 1 (l.take k)
    have hlk : (l.take k).length = k := by rw [List.length_take, HLN.out]; omega
    rw [hlk] at b0 b1
    by_cases hlt : k < n
    · obtain ⟨b, off, rfl, hb, hcl⟩ := ints_cells hr2 (by rw [HLN.out]; omega)
      have q := hcl k (by rw [HLN.out]; exact hlt)
      have T0 := Lib.hid (cntG_take 0 l k (by rw [HLN.out]; exact hlt))
      have T1 := Lib.hid (cntG_take 1 l k (by rw [HLN.out]; exact hlt))
      clear hcl hlk
      generalize nth 0 l k = y at *
      generalize cntG 0 (l.take k) = z0 at *
      generalize cntG 1 (l.take k) = z1 at *
      by_cases h1 : y > 1
      · go_wp2_with fail
        go_round
        case rel => exact ⟨k + 1, by omega, by go_num, by rw [T0.out, if_pos (by omega)], by rw [T1.out, if_pos h1], by rw [T0.out, if_pos (by omega)]; go_num⟩
        case measure => simp [intOf]; omega
      · by_cases h2 : y = 1
        · subst h2
          go_wp2_with fail
          go_round
          case rel => exact ⟨k + 1, by omega, by go_num, by rw [T0.out, if_pos (by omega)], by rw [T1.out, if_neg h1, Int.add_zero], by rw [T0.out, if_pos (by omega)]; go_num⟩
          case measure => simp [intOf]; omega
        · have h2b : (y == 1) = false := beq_false_of_ne h2
          go_wp2_with fail
          go_round
          case rel => exact ⟨k + 1, by omega, by go_num, by rw [T0.out, if_neg (by omega), Int.add_zero], by rw [T1.out, if_neg h1, Int.add_zero], by rw [T0.out, if_neg (by omega), Int.add_zero]; go_num⟩
          case measure => simp [intOf]; omega
    · obtain rfl : k = n := by omega
      have hfin : Hid (l.take k = l) := List.take_of_length_le (by rw [HLN.out]; omega)
      go_wp2_with fail
      go_ret3
      exact ⟨by rw [hfin.out]; rfl, hk2⟩
end Go.Proofs.Ytnemfponbadcjaa
