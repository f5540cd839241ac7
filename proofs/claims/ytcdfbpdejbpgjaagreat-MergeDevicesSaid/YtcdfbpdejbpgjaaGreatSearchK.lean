/- Where a key stands in a list in order. No condition: no program is in sight here. -/
import Derived.Test.YtcdfbpdejbpgjaaGreatMap
namespace Go.Proofs.YtcdfbpdejbpgjaaGreat
open Go.RowKit
section
variable {α : Type} (f : α → Int) (d : α)
/-- Keys rise. -/
def IncK (l : List α) : Prop := ∀ i j, i < j → j < l.length → f (nth d l i) < f (nth d l j)
/-- How many keys at the head are below v. -/
def posK (v : Int) : List α → Nat
  | [] => 0
  | x :: l => if f x < v then posK v l + 1 else 0
/-- Is the key there? -/
def hasK (v : Int) (l : List α) : Bool := l.any fun x => f x == v
variable {f : α → Int} {d : α} {l : List α} {v : Int}
theorem posK_le : posK f v l ≤ l.length := by
  induction l with
  | nil => simp [posK]
  | cons x l ih => simp only [posK, List.length_cons]; split <;> omega
theorem posK_below : ∀ j, j < posK f v l → f (nth d l j) < v := by
  induction l with
  | nil => intro j h; simp [posK] at h
  | cons x l ih =>
    intro j h
    simp only [posK] at h
    split at h
    · cases j with
      | zero => rw [nth_cons_zero]; assumption
      | succ j => rw [nth_cons_succ]; exact ih j (by omega)
    · omega
theorem posK_at (h : posK f v l < l.length) : v ≤ f (nth d l (posK f v l)) := by
  induction l with
  | nil => simp [posK] at h
  | cons x l ih =>
    simp only [posK] at h ⊢
    by_cases hx : f x < v
    · rw [if_pos hx] at h ⊢
      rw [nth_cons_succ]
      exact ih (by simp only [List.length_cons] at h; omega)
    · rw [if_neg hx, nth_cons_zero]
      omega
/-- What parts the keys is that place. -/
theorem posK_of {k : Nat} (hk : k ≤ l.length) (h1 : ∀ j, j < k → f (nth d l j) < v) (h2 : k < l.length → v ≤ f (nth d l k)) : k = posK f v l := by
  rcases Nat.lt_trichotomy k (posK f v l) with h | h | h
  · have := posK_below (d := d) k h
    have := h2 (by have := posK_le (f := f) (v := v) (l := l); omega)
    omega
  · exact h
  · have := h1 _ h
    have := posK_at (d := d) (f := f) (v := v) (l := l) (by omega)
    omega
theorem IncK.mono (hi : IncK f d l) {i j : Nat} (h : i ≤ j) (hj : j < l.length) : f (nth d l i) ≤ f (nth d l j) := by
  rcases Nat.lt_or_ge i j with hlt | hge
  · have := hi i j hlt hj; omega
  · obtain rfl : i = j := by omega
    omega
theorem hasK_iff : hasK f v l = true ↔ ∃ k, k < l.length ∧ f (nth d l k) = v := by
  unfold hasK
  rw [List.any_eq_true]
  constructor
  · rintro ⟨m, hm, he⟩
    obtain ⟨k, hk, rfl⟩ := List.mem_iff_getElem.1 hm
    exact ⟨k, hk, by rw [nth_get d l k hk]; simpa using he⟩
  · rintro ⟨k, hk, he⟩
    exact ⟨nth d l k, nth_mem d l k hk, by simpa using he⟩
theorem hasK_pos (hi : IncK f d l) : hasK f v l = decide (posK f v l < l.length ∧ f (nth d l (posK f v l)) = v) := by
  rw [Bool.eq_iff_iff, hasK_iff (d := d), decide_eq_true_eq]
  constructor
  · rintro ⟨j, hj, he⟩
    have hkj : posK f v l ≤ j := by
      rcases Nat.lt_or_ge j (posK f v l) with hlt | hge
      · have := posK_below (d := d) j hlt; omega
      · exact hge
    refine ⟨by omega, ?_⟩
    have h1 := posK_at (d := d) (f := f) (v := v) (l := l) (by omega)
    have h2 := hi.mono hkj hj
    omega
  · rintro ⟨h1, h2⟩
    exact ⟨_, h1, h2⟩
theorem hasK_at (hi : IncK f d l) (h : hasK f v l = true) : posK f v l < l.length ∧ f (nth d l (posK f v l)) = v := by
  rw [hasK_pos hi] at h; simpa using h
theorem hasK_not (hi : IncK f d l) (h : hasK f v l = false) (hp : posK f v l < l.length) : v < f (nth d l (posK f v l)) := by
  rw [hasK_pos hi] at h
  have h1 := posK_at (d := d) hp
  rcases Int.lt_or_eq_of_le h1 with h2 | h2
  · exact h2
  · simp only [decide_eq_false_iff_not] at h
    exact absurd ⟨hp, h2.symm⟩ h
end
end Go.Proofs.YtcdfbpdejbpgjaaGreat
