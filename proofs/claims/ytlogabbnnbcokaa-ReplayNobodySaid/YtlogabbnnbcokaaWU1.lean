/- scantlinglaw51.u1. Condition: the slices are within the reach. -/
import Derived.Test.YtlogabbnnbcokaaNobodyP
namespace Go.Proofs.Ytlogabbnnbcokaa
open Go.RowKit
attribute [local go_sem] Oper.semAt_some

set_option maxHeartbeats 1600000 in
theorem u1_any (w : World) (S0 S : Nat → Prop) (a : Nat) (bs : List UInt8) (v : Value) (l : List Wr) (n : Int) (hS0 : ∀ b, S0 b → b < w.heap.size) (himg : IsImg w S0 a bs) (hbn : bs.length ≤ 140737488355328) (hS : ∀ b, S b → b < w.heap.size) (hl : IsWrs w S v l) (hnl : l.length ≤ 1099511627776) (hlw : ∀ k, k < l.length → (nth wr0 l k).bytes.length ≤ 140737488355328) :
    Calls Try.prog 17 #[.pointer (some ⟨a, 0, none⟩), v, .int .i64 n] w fun e w' => ∃ a', e = .returned (.pointer (some ⟨a', 0, none⟩)) ∧ OwnImg w' w.heap.size a' (doF l bs (List.range (withinN (u1N n l.length) l.length).toNat)) ∧ Below w.heap.size w w' := by
  have hap := apply_any w S0 S a bs v l (u1N n l.length) hS0 himg hbn hS hl hnl hlw
  obtain ⟨A, c, rfl, hc, hr⟩ := hl
  generalize doF l bs (List.range (withinN (u1N n l.length) l.length).toNat) = res at *
  have HAP := Lib.hid hap
  clear hap hr himg hlw
  generalize l.length = nl at *
  by_cases h1 : n < 0
  · by_cases h2 : nl = 0
    · subst h2
      have e : u1N n (0 : Nat) = 0 := by unfold u1N; rw [if_pos h1]; rfl
      rw [e] at HAP
      clear e
      go_enter Try.func17, Try.ntmps17
      go_wp2_with (go_at_call 9; refine HAP.out.mono ?_; rintro e w1 ⟨a1, rfl, hI1, hB1⟩)
      go_ret
      exact ⟨a1, rfl, hI1, hB1⟩
    · have e : u1N n nl = 1 := by unfold u1N; rw [if_pos h1, if_neg (by omega)]; rfl
      rw [e] at HAP
      clear e
      have h3 : ¬ (0 : Int) ≥ (nl : Int) := by omega
      have h4 : (0 : Int) < (nl : Int) := by omega
      have h5 : 0 < nl := by omega
      go_enter Try.func17, Try.ntmps17
      go_wp2_with (go_at_call 9; refine HAP.out.mono ?_; rintro e w1 ⟨a1, rfl, hI1, hB1⟩)
      go_ret
      exact ⟨a1, rfl, hI1, hB1⟩
  · by_cases h2 : n ≥ (nl : Int)
    · have e : u1N n nl = (nl : Int) - 1 + 1 := by unfold u1N; rw [if_neg h1, if_pos h2]
      rw [e] at HAP
      clear e
      have HQ := Lib.hid (show (nl : Int) - 1 + 1 = (nl : Int) by omega)
      rw [HQ.out] at HAP
      go_enter Try.func17, Try.ntmps17
      go_wp2_with (go_at_call 9; refine HAP.out.mono ?_; rintro e w1 ⟨a1, rfl, hI1, hB1⟩)
      go_ret
      exact ⟨a1, rfl, hI1, hB1⟩
    · have e : u1N n nl = n + 1 := by unfold u1N; rw [if_neg h1, if_neg h2]
      rw [e] at HAP
      clear e
      have h3 : n < (nl : Int) := by omega
      go_enter Try.func17, Try.ntmps17
      go_wp2_with (go_at_call 9; refine HAP.out.mono ?_; rintro e w1 ⟨a1, rfl, hI1, hB1⟩)
      go_ret
      exact ⟨a1, rfl, hI1, hB1⟩
end Go.Proofs.Ytlogabbnnbcokaa
