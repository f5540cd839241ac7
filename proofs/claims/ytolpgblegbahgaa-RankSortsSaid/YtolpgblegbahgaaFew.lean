/- Whether a pool is small enough. No condition: no program is in sight here. -/
import Derived.Test.YtolpgblegbahgaaPool
namespace Go.Proofs.Ytolpgblegbahgaa
open Go.RowKit
/-- Is a pool small enough for the laws' own looks? -/
def fewB (p : Pool) : Bool := decide (p.devs.length ≤ 200 ∧ p.count ≤ 2000)
def fewN (p : Pool) : Int := if fewB p = true then 1 else 0

theorem fewN_yes {p : Pool} (h1 : p.devs.length ≤ 200) (h2 : p.count ≤ 2000) : fewN p = 1 := by unfold fewN; rw [if_pos]; simp only [fewB, decide_eq_true_eq]; exact ⟨h1, h2⟩
theorem fewN_no {p : Pool} (h : ¬ (p.devs.length ≤ 200 ∧ p.count ≤ 2000)) : fewN p = 0 := by unfold fewN; rw [if_neg]; simp only [fewB, decide_eq_true_eq]; exact h

theorem countL_take_bound {p : Pool} (h : p.ok) (k : Nat) (hk : k ≤ 201) : countL (p.devs.take k) ≤ 1178676464975805 := by
  have h1 := countL_bound (c := 5864062014805) (p.devs.take k) (fun d hd => (h.2.2.2.2.1 d (List.mem_of_mem_take hd)).2.2.2.2.2)
  have h2 : (p.devs.take k).length * 5864062014805 ≤ 201 * 5864062014805 := Nat.mul_le_mul_right _ (by rw [List.length_take]; omega)
  omega

end Go.Proofs.Ytolpgblegbahgaa
