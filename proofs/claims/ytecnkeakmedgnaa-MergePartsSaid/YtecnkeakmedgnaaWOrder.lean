/- merge.order: mappings by their virtual blocks. No condition. -/
import Derived.Test.YtecnkeakmedgnaaWCmp
import Derived.Test.YtecnkeakmedgnaaMap
namespace Go.Proofs.Ytecnkeakmedgnaa
open Go.RowKit
attribute [local go_sem] Oper.semAt_some
theorem order_any (w : World) (x y : Mp) : Calls Try.prog 22 #[.agg #[.int .i64 x.v, .int .i64 x.b, .int .i64 x.t], .agg #[.int .i64 y.v, .int .i64 y.b, .int .i64 y.t]] w fun e w' =>
    e = .returned (.int .i64 (cmpI x.v y.v)) ∧ w' = (w.alloc (.cells #[.int .i64 x.v, .int .i64 x.b, .int .i64 x.t] 41)).alloc (.cells #[.int .i64 y.v, .int .i64 y.b, .int .i64 y.t] 41) := by
  have hc := fun w' => cmp_any w' x.v y.v
  generalize cmpI x.v y.v = r at *
  go_enter Try.func22, Try.ntmps22
  go_wp2_with (go_at_call 38; refine (hc _).mono ?_; rintro e w' ⟨rfl, rfl⟩)
  go_ret
  exact ⟨rfl, rfl⟩
theorem order_below (w : World) (x y : Mp) : Calls Try.prog 22 #[.agg #[.int .i64 x.v, .int .i64 x.b, .int .i64 x.t], .agg #[.int .i64 y.v, .int .i64 y.b, .int .i64 y.t]] w fun e w' =>
    e = .returned (.int .i64 (cmpI x.v y.v)) ∧ Below w.heap.size w w' := (order_any w x y).mono fun _ _ ⟨he, hw⟩ => ⟨he, by rw [hw]; exact ((Below.refl _ _).alloc (Nat.le_refl _) _).alloc (by simp) _⟩
end Go.Proofs.Ytecnkeakmedgnaa
