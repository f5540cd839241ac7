/- Ops in two parts are the ops as one; how many were done. No condition: no program is in sight here. -/
import Derived.Test.YtjclcjhmdohemaaModelQ
namespace Go.Proofs.Ytjclcjhmdohemaa
open Go.RowKit

theorem runFrom_count : ∀ (l : List Mop) (p : Pool) (i : Nat), ((runFrom p i l).2.2 = 0 → (runFrom p i l).2.1 = i + l.length) ∧ ((runFrom p i l).2.2 ≠ 0 → (runFrom p i l).2.1 < i + l.length) ∧ (runFrom p i l).2.1 ≤ i + l.length := by
  intro l
  induction l with
  | nil => intro p i; exact ⟨fun _ => rfl, fun h => absurd rfl h, Nat.le_refl _⟩
  | cons o l ih =>
    intro p i
    simp only [runFrom, List.length_cons]
    by_cases h : (applyF p o).1 = 0
    · rw [if_neg (by simpa using h)]
      obtain ⟨h1, h2, h3⟩ := ih (applyF p o).2 (i + 1)
      exact ⟨fun e => by have := h1 e; omega, fun e => by have := h2 e; omega, by omega⟩
    · rw [if_pos h]
      exact ⟨fun e => absurd e h, fun _ => by show i < i + (l.length + 1); omega, by show i ≤ i + (l.length + 1); omega⟩
theorem runFrom_shift (d : Nat) : ∀ (l : List Mop) (p : Pool) (i : Nat), runFrom p (i + d) l = ((runFrom p i l).1, (runFrom p i l).2.1 + d, (runFrom p i l).2.2) := by
  intro l
  induction l with
  | nil => intro p i; rfl
  | cons o l ih =>
    intro p i
    simp only [runFrom]
    by_cases h : (applyF p o).1 = 0
    · rw [if_neg (by simpa using h), if_neg (by simpa using h), show i + d + 1 = i + 1 + d by omega, ih]
    · rw [if_pos h, if_pos h]
theorem runFrom_append : ∀ (a b : List Mop) (p : Pool) (i : Nat), (runFrom p i a).2.2 = 0 → runFrom p i (a ++ b) = runFrom (runFrom p i a).1 (runFrom p i a).2.1 b := by
  intro a
  induction a with
  | nil => intro b p i _; rfl
  | cons o a ih =>
    intro b p i h
    simp only [runFrom, List.cons_append] at h ⊢
    by_cases h1 : (applyF p o).1 = 0
    · rw [if_neg (by simpa using h1)] at h ⊢
      rw [if_neg (by simpa using h1)]
      exact ih b _ _ h
    · rw [if_pos h1] at h; exact absurd h h1
/-- What ModelRight asks, of a pool that may be. -/
theorem run_right {p : Pool} {a : List Mop} (hc : poolChk p = 0) : poolChk (runF p a).1 = 0 ∧ ((runF p a).2.2 = 0 → (runF p a).2.1 = a.length) ∧ ((runF p a).2.2 ≠ 0 → (runF p a).2.1 < a.length) := by
  have e : runF p a = runFrom p 0 a := by unfold runF; rw [if_neg (by simpa using hc)]
  rw [e]
  obtain ⟨h1, h2, _⟩ := runFrom_count a p 0
  exact ⟨fit_iff.2 (runFrom_fit a p 0 (fit_iff.1 hc)), fun h => by have := h1 h; omega, fun h => by have := h2 h; omega⟩
theorem run_parts {p : Pool} {a b : List Mop} (hc : poolChk p = 0) (h : (runF p a).2.2 = 0) : runF p (a ++ b) = ((runF (runF p a).1 b).1, (runF p a).2.1 + (runF (runF p a).1 b).2.1, (runF (runF p a).1 b).2.2) := by
  have hq := (run_right (a := a) hc).1
  have e1 : runF p a = runFrom p 0 a := by unfold runF; rw [if_neg (by simpa using hc)]
  have e2 : runF p (a ++ b) = runFrom p 0 (a ++ b) := by unfold runF; rw [if_neg (by simpa using hc)]
  have e3 : runF (runF p a).1 b = runFrom (runF p a).1 0 b := by unfold runF at hq ⊢; rw [if_neg (by simpa using hq)]
  rw [e2, e3]
  rw [e1] at h ⊢
  rw [runFrom_append a b p 0 h]
  have h2 := runFrom_shift (runFrom p 0 a).2.1 b (runFrom p 0 a).1 0
  rw [Nat.zero_add] at h2
  rw [h2, Nat.add_comm]
end Go.Proofs.Ytjclcjhmdohemaa
