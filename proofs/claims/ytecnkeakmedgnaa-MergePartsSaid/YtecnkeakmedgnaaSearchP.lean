/- Where a virtual block stands in mappings in order. No condition: no program is in sight here. -/
import Derived.Test.YtecnkeakmedgnaaMap
namespace Go.Proofs.Ytecnkeakmedgnaa
open Go.RowKit
/-- k parts the mappings: those ahead of it are below v, the others are not. -/
def Parts (l : List Mp) (v : Int) (k : Nat) : Prop := k ≤ l.length ∧ (∀ j, j < k → (nth mp0 l j).v < v) ∧ (∀ j, k ≤ j → j < l.length → v ≤ (nth mp0 l j).v)
def hasV (l : List Mp) (v : Int) : Bool := l.any fun m => m.v == v
def Inc (l : List Mp) : Prop := ∀ i j, i < j → j < l.length → (nth mp0 l i).v < (nth mp0 l j).v
theorem hasV_iff {l : List Mp} {v : Int} : hasV l v = true ↔ ∃ k, k < l.length ∧ (nth mp0 l k).v = v := by
  unfold hasV
  rw [List.any_eq_true]
  constructor
  · rintro ⟨m, hm, he⟩
    obtain ⟨k, hk, rfl⟩ := List.mem_iff_getElem.1 hm
    exact ⟨k, hk, by rw [nth_get mp0 l k hk]; simpa using he⟩
  · rintro ⟨k, hk, he⟩
    exact ⟨nth mp0 l k, nth_mem mp0 l k hk, by simpa using he⟩
theorem parts_has {l : List Mp} {v : Int} {k : Nat} (h : Parts l v k) (hi : Inc l) : hasV l v = decide (k < l.length ∧ (nth mp0 l k).v = v) := by
  rw [Bool.eq_iff_iff, hasV_iff, decide_eq_true_eq]
  constructor
  · rintro ⟨j, hj, he⟩
    obtain ⟨h1, h2, h3⟩ := h
    have hkj : k ≤ j := by
      rcases Nat.lt_or_ge j k with hlt | hge
      · have := h2 j hlt; omega
      · exact hge
    refine ⟨by omega, ?_⟩
    rcases Nat.lt_or_ge k j with hlt | hge
    · have := hi k j hlt hj
      have := h3 k (Nat.le_refl _) (by omega)
      omega
    · obtain rfl : j = k := by omega
      exact he
  · rintro ⟨h1, h2⟩
    exact ⟨k, h1, h2⟩
theorem inc_mono {l : List Mp} (hi : Inc l) {i j : Nat} (h : i ≤ j) (hj : j < l.length) : (nth mp0 l i).v ≤ (nth mp0 l j).v := by
  rcases Nat.lt_or_ge i j with hlt | hge
  · have := hi i j hlt hj; omega
  · obtain rfl : i = j := by omega
    omega
theorem chkFrom_inc : ∀ (l : List Mp) (last : Int), chkFrom last l = 0 → Inc l ∧ (∀ j, j < l.length → last < (nth mp0 l j).v) ∧ (∀ j, j < l.length → 0 ≤ (nth mp0 l j).v ∧ (nth mp0 l j).v ≤ 281474976710655) := by
  intro l
  induction l with
  | nil => intro last _; exact ⟨fun i j _ h => by simp at h, fun j h => by simp at h, fun j h => by simp at h⟩
  | cons m r ih =>
    intro last h
    simp only [chkFrom] at h
    by_cases h1 : m.v < 0 ∨ 281474976710655 < m.v
    · rw [if_pos h1] at h; omega
    · rw [if_neg h1] at h
      by_cases h2 : m.v ≤ last
      · rw [if_pos h2] at h; omega
      · rw [if_neg h2] at h
        obtain ⟨i1, i2, i3⟩ := ih m.v h
        refine ⟨fun i j hij hj => ?_, fun j hj => ?_, fun j hj => ?_⟩
        · simp only [List.length_cons] at hj
          cases j with
          | zero => omega
          | succ j =>
            rw [nth_cons_succ]
            cases i with
            | zero => rw [nth_cons_zero]; exact i2 j (by omega)
            | succ i => rw [nth_cons_succ]; exact i1 i j (by omega) (by omega)
        · simp only [List.length_cons] at hj
          cases j with
          | zero => rw [nth_cons_zero]; omega
          | succ j => rw [nth_cons_succ]; have := i2 j (by omega); omega
        · simp only [List.length_cons] at hj
          cases j with
          | zero => rw [nth_cons_zero]; omega
          | succ j => rw [nth_cons_succ]; exact i3 j (by omega)
theorem chk_inc {l : List Mp} (h : chk l = 0) : Inc l := (chkFrom_inc l (-1) h).1
theorem chk_range {l : List Mp} (h : chk l = 0) {j : Nat} (hj : j < l.length) : 0 ≤ (nth mp0 l j).v ∧ (nth mp0 l j).v ≤ 281474976710655 := (chkFrom_inc l (-1) h).2.2 j hj
end Go.Proofs.Ytecnkeakmedgnaa
