/- slices.SortStableFunc at no candidates. No condition. -/
import Derived.Test.YtolpgblegbahgaaWInsS
namespace Go.Proofs.Ytolpgblegbahgaa
open Go.RowKit Go.Shelf Go.Sort
set_option linter.unusedVariables false
set_option linter.unusedSimpArgs false

theorem insS_nil (w : World) (v f : Value) : Calls Try.prog 39 #[v, .int .i64 0, .int .i64 0, f] w fun e w' => e = .returned (.tuple #[]) ∧ w' = w := by
  go_enter Try.func39, Try.ntmps39
  go_wp2_with fail
  go_loopw [8] (fun vi wr => vi = .int .i64 1 ∧ wr = w) (fun _ _ => 0)
  case atStart => exact ⟨rfl, rfl⟩
  case round =>
    obtain ⟨rfl, rfl⟩ := hrel
    go_wp2_with fail
    go_end0
    exact ⟨rfl, rfl⟩
theorem stable_nil (w : World) (v f : Value) : Calls Try.prog 33 #[v, .int .i64 0, f] w fun e w' => e = .returned (.tuple #[]) ∧ w' = w := by
  go_enter Try.func33, Try.ntmps33
  go_wp2_with fail
  go_loopw [7, 8] (fun va vb wr => va = .int .i64 0 ∧ vb = .int .i64 20 ∧ wr = w) (fun _ _ _ => 0)
  case atStart => exact ⟨rfl, rfl, rfl⟩
  case round =>
    obtain ⟨rfl, rfl, rfl⟩ := hrel
    go_wp2_with (go_at_call 39; refine (insS_nil _ _ _).mono ?_; rintro e w3 ⟨rfl, rfl⟩)
    go_loopw [6] (fun vs wr => Hid (vs = .int .i64 20 ∧ wr = w3)) (fun _ _ => 0)
    case atStart => exact ⟨rfl, rfl⟩
    case round =>
      obtain ⟨rfl, hw⟩ := hrel.out
      have HW := Lib.hid hw
      clear hw hrel
      go_wp2_with fail
      go_end0
      exact ⟨rfl, HW.out⟩
theorem sortStable_nil (w : World) (A : Option Addr) (c : Nat) (f : Value) : Calls Try.prog 18 #[.slice A 0 c, f] w fun e w' => e = .returned (.tuple #[]) ∧ w' = w := by
  go_enter Try.func18, Try.ntmps18
  go_wp2_with (go_at_call 33; refine (stable_nil _ _ _).mono ?_; rintro e w3 ⟨rfl, rfl⟩)
  go_end0
  exact ⟨rfl, rfl⟩
end Go.Proofs.Ytolpgblegbahgaa
