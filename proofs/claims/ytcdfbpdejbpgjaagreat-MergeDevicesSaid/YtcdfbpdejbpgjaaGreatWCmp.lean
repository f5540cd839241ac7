/- cmp.Compare at int. No condition. -/
import Derived.Test.YtcdfbpdejbpgjaaGreatProg
import Derived.Test.YtcdfbpdejbpgjaaGreatBase
namespace Go.Proofs.YtcdfbpdejbpgjaaGreat
open Go.RowKit
attribute [local go_sem] Oper.semAt_some

/-- What cmp.Compare says of two integers. -/
def cmpI (a b : Int) : Int := if a < b then -1 else if a > b then 1 else 0
theorem cmpI_lt {a b : Int} : cmpI a b < 0 ↔ a < b := by unfold cmpI; split <;> (try split) <;> omega
theorem cmpI_eq {a b : Int} : cmpI a b = 0 ↔ a = b := by unfold cmpI; split <;> (try split) <;> omega
theorem nan_any (w : World) (a : Int) : Calls Tryz.prog 69 #[.int .i64 a] w fun e w' => e = .returned (.bool false) ∧ w = w' := by
  go_enter Tryz.func69, Tryz.ntmps69
  go_wp2
  go_ret
  exact ⟨by simp, rfl⟩
theorem cmp_any (w : World) (a b : Int) : Calls Tryz.prog 40 #[.int .i64 a, .int .i64 b] w fun e w' => e = .returned (.int .i64 (cmpI a b)) ∧ w = w' := by
  by_cases h1 : a < b
  · have e : cmpI a b = -1 := by simp [cmpI, h1]
    rw [e]
    go_enter Tryz.func40, Tryz.ntmps40
    go_wp2_with (go_at_call 69; refine (nan_any _ _).mono ?_; rintro e w' ⟨rfl, rfl⟩)
    go_ret
    exact ⟨rfl, rfl⟩
  · by_cases h2 : a > b
    · have e : cmpI a b = 1 := by simp only [cmpI, if_neg h1, if_pos h2]
      rw [e]
      go_enter Tryz.func40, Tryz.ntmps40
      go_wp2_with (go_at_call 69; refine (nan_any _ _).mono ?_; rintro e w' ⟨rfl, rfl⟩)
      go_ret
      exact ⟨rfl, rfl⟩
    · have e : cmpI a b = 0 := by simp only [cmpI, if_neg h1, if_neg h2]
      rw [e]
      go_enter Tryz.func40, Tryz.ntmps40
      go_wp2_with (go_at_call 69; refine (nan_any _ _).mono ?_; rintro e w' ⟨rfl, rfl⟩)
      go_ret
      exact ⟨rfl, rfl⟩
end Go.Proofs.YtcdfbpdejbpgjaaGreat
