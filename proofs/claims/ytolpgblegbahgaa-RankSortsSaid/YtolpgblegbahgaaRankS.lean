/- The stable sort by the order of candidates: Go's is the reference's. No condition. -/
import Derived.Test.YtolpgblegbahgaaRankP
import Derived.Test.YtolpgblegbahgaaStabP
namespace Go.Proofs.Ytolpgblegbahgaa
open Go.RowKit

theorem cmpI_ge {a b : Int} (h : ¬ cmpI a b < 0) : b ≤ a := by
  unfold cmpI at h
  split at h
  · omega
  · omega
theorem lexC_ntrans : ∀ (a b c : List Int), a.length = b.length → b.length = c.length → ¬ lexC a b < 0 → ¬ lexC b c < 0 → ¬ lexC a c < 0 := by
  intro a
  induction a with
  | nil =>
    intro b c hl _ _ _
    simp [lexC]
  | cons x a ih =>
    intro b c hl hl2 h1 h2
    cases b with
    | nil => simp at hl
    | cons y b =>
      cases c with
      | nil => simp at hl2
      | cons z c =>
        simp only [lexC] at h1 h2 ⊢
        by_cases e1 : cmpI x y = 0
        · rw [if_pos e1] at h1
          obtain rfl := cmpI_zero e1
          by_cases e2 : cmpI x z = 0
          · rw [if_pos e2] at h2 ⊢
            exact ih b c (by simpa using hl) (by simpa using hl2) h1 h2
          · rw [if_neg e2] at h2 ⊢
            exact h2
        · rw [if_neg e1] at h1
          have hxy := cmpI_ge h1
          have hne : x ≠ y := fun h => e1 (by rw [h]; exact cmpI_self y)
          have hyz : z ≤ y := by
            by_cases e2 : cmpI y z = 0
            · have := cmpI_zero e2; omega
            · rw [if_neg e2] at h2
              exact cmpI_ge h2
          have hxz : z < x := by omega
          have e3 : cmpI x z = 1 := by unfold cmpI; rw [if_neg (by omega), if_pos hxz]
          rw [e3]
          simp
/-- a candidate is ahead of another -/
def ltC (a b : Cand) : Bool := decide (cmpC a b < 0)
theorem stabC (l : List Cand) : stab cand0 ltC l = refS cand0 ltC [] l := by
  refine stab_eq cand0 ltC (fun x => ?_) (fun x y z h1 h2 => ?_) (fun x y z h1 h2 => ?_) l
  · simp [ltC, ahead_irrefl]
  · simp only [ltC, decide_eq_true_eq] at *
    exact ahead_trans h1 h2
  · simp only [ltC, decide_eq_false_iff_not] at *
    rw [cmpC_lex] at *
    exact lexC_ntrans _ _ _ (keyC_len x y) (keyC_len y z) h1 h2
end Go.Proofs.Ytolpgblegbahgaa
