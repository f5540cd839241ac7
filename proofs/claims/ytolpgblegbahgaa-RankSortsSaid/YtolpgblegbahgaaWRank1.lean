/- cmp.Compare, rank.first, the steps of rank.compare. -/
import Derived.Test.YtolpgblegbahgaaCand
import Derived.Deep.RegionHeld3
namespace Go.Proofs.Ytolpgblegbahgaa
open Go.RowKit
attribute [local go_sem] Oper.semAt_some

theorem nan_any (w : World) (a : Int) : Calls Try.prog 35 #[.int .i64 a] w fun e w' => e = .returned (.bool false) ∧ w = w' := by
  go_enter Try.func35, Try.ntmps35
  go_wp2
  go_ret
  exact ⟨by simp, rfl⟩
theorem cmp_any (w : World) (a b : Int) : Calls Try.prog 21 #[.int .i64 a, .int .i64 b] w fun e w' => e = .returned (.int .i64 (cmpI a b)) ∧ w = w' := by
  by_cases h1 : a < b
  · have e : cmpI a b = -1 := by simp [cmpI, h1]
    rw [e]
    go_enter Try.func21, Try.ntmps21
    go_wp2_with (go_at_call 35; refine (nan_any _ _).mono ?_; rintro e w' ⟨rfl, rfl⟩)
    go_ret
    exact ⟨rfl, rfl⟩
  · by_cases h2 : a > b
    · have e : cmpI a b = 1 := by simp only [cmpI, if_neg h1, if_pos h2]
      rw [e]
      go_enter Try.func21, Try.ntmps21
      go_wp2_with (go_at_call 35; refine (nan_any _ _).mono ?_; rintro e w' ⟨rfl, rfl⟩)
      go_ret
      exact ⟨rfl, rfl⟩
    · have e : cmpI a b = 0 := by simp only [cmpI, if_neg h1, if_neg h2]
      rw [e]
      go_enter Try.func21, Try.ntmps21
      go_wp2_with (go_at_call 35; refine (nan_any _ _).mono ?_; rintro e w' ⟨rfl, rfl⟩)
      go_ret
      exact ⟨rfl, rfl⟩
theorem first_any (w : World) (c : Cand) (A : Option Addr) (n : Nat) : Calls Try.prog 22 #[candV c A n] w fun e w' => e = .returned (.int .i64 (firstI c)) ∧ Below w.heap.size w w' := by
  have hB : Below w.heap.size w (w.alloc (candBox c A n)) := (Below.refl _ _).alloc (Nat.le_refl _) _
  by_cases h : c.super = true
  · have e : firstI c = 0 := by simp [firstI, h]
    rw [e]
    dsimp only [candV, candBox, Cand.cells] at hB ⊢
    rw [h] at hB ⊢
    go_enter Try.func22, Try.ntmps22
    go_wp2
    go_ret
    exact ⟨rfl, hB⟩
  · have h' : c.super = false := by simpa using h
    have e : firstI c = 1 := by simp [firstI, h']
    rw [e]
    dsimp only [candV, candBox, Cand.cells] at hB ⊢
    rw [h'] at hB ⊢
    go_enter Try.func22, Try.ntmps22
    go_wp2
    go_ret
    exact ⟨rfl, hB⟩
end Go.Proofs.Ytolpgblegbahgaa
