/- Words for clones of rows: devices. No condition. -/
import Derived.Test.YtolpgblegbahgaaCloneA
import Derived.Test.YtolpgblegbahgaaPool
namespace Go.Proofs.Ytolpgblegbahgaa
open Go.RowKit
theorem info_dev : (Try.prog.info? 50).map (fun i => (i.zero, i.size, i.bytes)) = some (some (.agg #[.int .i64 0, .int .i64 0, .int .i64 0, .int .i64 0, .slice none 0 0]), 5, 56) := by kernel_rfl
theorem rdev_one : ∀ (w : World) (S : Nat → Prop) cs x, RDev w S cs x → ∀ u ∈ cs, u.oneCell' = true := by
  rintro _ _ cs x ⟨A, c, rfl, _⟩ u hu
  simp at hu
  rcases hu with rfl | rfl | rfl | rfl | rfl <;> rfl

end Go.Proofs.Ytolpgblegbahgaa
