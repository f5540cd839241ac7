/- node.Width, node.Max, scantlingref07.Width, Max, tall.over. -/
import Derived.Test.YtooffkhdanimbaaSizeP
import Derived.Test.YtooffkhdanimbaaProg
import Derived.Deep.QuietTactic
import Derived.BigQuiet
import Derived.Outline
namespace Go.Proofs.Ytooffkhdanimbaa
open Go.RowKit

theorem tree_cases {t : Int} (h : 1 ≤ t ∧ t ≤ 5) : t = 1 ∨ t = 2 ∨ t = 3 ∨ t = 4 ∨ t = 5 := by omega
set_option maxHeartbeats 1600000 in
theorem width_any (w : World) (t : Int) (leaf : Bool) (h : 1 ≤ t ∧ t ≤ 5) : Calls Try.prog 47 #[.int .i64 t, .bool leaf] w fun e w' => e = .returned (.int .i64 (widthN t leaf)) ∧ w = w' := by
  rcases tree_cases h with rfl | rfl | rfl | rfl | rfl <;> cases leaf <;>
  (go_enter Try.func47, Try.ntmps47
   go_wp2
   go_ret
   exact ⟨by simp [widthN], rfl⟩)
set_option maxHeartbeats 1600000 in
theorem max_any (w : World) (t : Int) (leaf : Bool) (h : 1 ≤ t ∧ t ≤ 5) : Calls Try.prog 38 #[.int .i64 t, .bool leaf] w fun e w' => e = .returned (.int .i64 (maxN t leaf)) ∧ w = w' := by
  have hw := width_any w t leaf h
  rcases tree_cases h with rfl | rfl | rfl | rfl | rfl <;> cases leaf <;> simp only [widthN] at hw <;>
  (go_enter Try.func38, Try.ntmps38
   go_wp2_with (go_at_call 47; refine hw.mono ?_; rintro e w' ⟨rfl, rfl⟩)
   go_ret
   exact ⟨by simp [maxN], rfl⟩)
end Go.Proofs.Ytooffkhdanimbaa
