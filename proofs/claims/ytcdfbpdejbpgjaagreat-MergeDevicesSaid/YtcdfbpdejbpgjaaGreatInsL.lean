/- One element put into a list, or taken out of it. No condition: no program is in sight here. -/
import Derived.Test.YtcdfbpdejbpgjaaGreatCopyK
namespace Go.Proofs.YtcdfbpdejbpgjaaGreat
open Go.RowKit
section
variable {α : Type}
def insAt (l : List α) (i : Nat) (x : α) : List α := l.take i ++ x :: l.drop i
def delAt (l : List α) (i : Nat) : List α := l.take i ++ l.drop (i + 1)
theorem insAt_length (l : List α) (i : Nat) (x : α) (h : i ≤ l.length) : (insAt l i x).length = l.length + 1 := by unfold insAt; simp; omega
theorem delAt_length (l : List α) (i : Nat) (h : i < l.length) : (delAt l i).length + 1 = l.length := by unfold delAt; simp; omega
theorem nth_take (d : α) (l : List α) (k j : Nat) (h : j < k) : nth d (l.take k) j = nth d l j := by unfold nth; simp [List.getD, h]
theorem nth_append_right (d : α) (l r : List α) (k : Nat) (h : l.length ≤ k) : nth d (l ++ r) k = nth d r (k - l.length) := by unfold nth; simp [List.getD, List.getElem?_append_right h]
theorem nth_insAt (d : α) (l : List α) (i j : Nat) (x : α) (h : i ≤ l.length) : nth d (insAt l i x) j = if j < i then nth d l j else if j = i then x else nth d l (j - 1) := by
  unfold insAt
  have hl : (l.take i).length = i := by rw [List.length_take]; omega
  by_cases h1 : j < i
  · rw [if_pos h1, nth_append_left d _ _ j (by omega), nth_take d l i j h1]
  · rw [if_neg h1, nth_append_right d _ _ j (by omega), hl]
    by_cases h2 : j = i
    · rw [if_pos h2, h2, Nat.sub_self]; rfl
    · rw [if_neg h2]
      obtain ⟨k, hk⟩ : ∃ k, j - i = k + 1 := ⟨j - i - 1, by omega⟩
      rw [hk, nth_cons_succ, nth_drop]
      congr 1; omega
theorem nth_delAt (d : α) (l : List α) (i j : Nat) (h : i < l.length) : nth d (delAt l i) j = if j < i then nth d l j else nth d l (j + 1) := by
  unfold delAt
  have hl : (l.take i).length = i := by rw [List.length_take]; omega
  by_cases h1 : j < i
  · rw [if_pos h1, nth_append_left d _ _ j (by omega), nth_take d l i j h1]
  · rw [if_neg h1, nth_append_right d _ _ j (by omega), hl, nth_drop]
    congr 1; omega
theorem mem_insAt {l : List α} {i : Nat} {x y : α} : y ∈ insAt l i x ↔ y = x ∨ y ∈ l := by
  unfold insAt
  rw [List.mem_append, List.mem_cons]
  constructor
  · rintro (h | h | h)
    · exact .inr (List.mem_of_mem_take h)
    · exact .inl h
    · exact .inr (List.mem_of_mem_drop h)
  · rintro (h | h)
    · exact .inr (.inl h)
    · rw [← List.take_append_drop i l, List.mem_append] at h
      rcases h with h | h
      · exact .inl h
      · exact .inr (.inr h)
theorem mem_delAt {l : List α} {i : Nat} {y : α} (h : y ∈ delAt l i) : y ∈ l := by
  unfold delAt at h
  rcases List.mem_append.1 h with h | h
  · exact List.mem_of_mem_take h
  · exact List.mem_of_mem_drop h
theorem insAt_map {β : Type} (f : α → β) (l : List α) (i : Nat) (x : α) : (insAt l i x).map f = insAt (l.map f) i (f x) := by unfold insAt; simp [List.map_take, List.map_drop]
theorem delAt_insAt (l : List α) (i : Nat) (x : α) (h : i ≤ l.length) : delAt (insAt l i x) i = l := by
  unfold delAt insAt
  have hl : (l.take i).length = i := by rw [List.length_take]; omega
  rw [List.take_append, List.drop_append, hl, Nat.sub_self, List.take_zero, List.append_nil, List.take_of_length_le (by omega), List.drop_of_length_le (l := l.take i) (by omega), List.nil_append]
  have : i + 1 - i = 1 := by omega
  rw [this]
  simp
end
theorem insC_get {xs new : List Value} {n s i j r : Nat} (hx : xs.length = n * s) (hn : new.length = s) (hi : i ≤ n) (hr : r < s) : (insC xs (i * s) new)[j * s + r]? = if j < i then xs[j * s + r]? else if j = i then new[r]? else xs[(j - 1) * s + r]? := by
  have h1 : i * s ≤ n * s := Nat.mul_le_mul_right _ hi
  have hl : (xs.take (i * s)).length = i * s := by rw [List.length_take]; omega
  unfold insC
  by_cases h2 : j < i
  · have h3 : (j + 1) * s ≤ i * s := Nat.mul_le_mul_right _ (by omega)
    rw [Nat.add_mul, Nat.one_mul] at h3
    rw [if_pos h2, List.getElem?_append_left (by omega), List.getElem?_take, if_pos (by omega)]
  · rw [if_neg h2]
    by_cases h3 : j = i
    · subst h3
      rw [if_pos rfl, List.getElem?_append_right (by omega), hl, List.getElem?_append_left (by omega)]
      congr 1; omega
    · rw [if_neg h3]
      obtain ⟨k, rfl⟩ : ∃ k, j = k + 1 := ⟨j - 1, by omega⟩
      have h4 : i * s ≤ k * s := Nat.mul_le_mul_right _ (by omega)
      have h5 : (k + 1) * s = k * s + s := by rw [Nat.add_mul, Nat.one_mul]
      rw [h5, List.getElem?_append_right (by omega), hl, List.getElem?_append_right (by omega), hn, List.getElem?_drop, Nat.add_sub_cancel]
      congr 1; omega
theorem delC_get {xs : List Value} {n s i j r : Nat} (hx : xs.length = n * s) (hi : i < n) (hr : r < s) : (xs.take (i * s) ++ xs.drop (i * s + s))[j * s + r]? = if j < i then xs[j * s + r]? else xs[(j + 1) * s + r]? := by
  have h1 : i * s ≤ n * s := Nat.mul_le_mul_right _ (by omega)
  have hl : (xs.take (i * s)).length = i * s := by rw [List.length_take]; omega
  by_cases h2 : j < i
  · have h3 : (j + 1) * s ≤ i * s := Nat.mul_le_mul_right _ (by omega)
    rw [Nat.add_mul, Nat.one_mul] at h3
    rw [if_pos h2, List.getElem?_append_left (by omega), List.getElem?_take, if_pos (by omega)]
  · rw [if_neg h2]
    have h4 : i * s ≤ j * s := Nat.mul_le_mul_right _ (by omega)
    have h5 : (j + 1) * s = j * s + s := by rw [Nat.add_mul, Nat.one_mul]
    rw [h5, List.getElem?_append_right (by omega), hl, List.getElem?_drop]
    congr 1; omega
theorem insC_flats {α : Type} {enc : α → List Value} {s : Nat} (he : ∀ x, (enc x).length = s) (l : List α) (i : Nat) (x : α) : insC (flats enc l) (i * s) (enc x) = flats enc (insAt l i x) := by
  unfold insC insAt
  have ht : ∀ (l : List α) (i : Nat), (flats enc l).take (i * s) = flats enc (l.take i) ∧ (flats enc l).drop (i * s) = flats enc (l.drop i) := by
    intro l
    induction l with
    | nil => intro i; simp [flats]
    | cons y l ih =>
      intro i
      have e : flats enc (y :: l) = enc y ++ flats enc l := by unfold flats; simp
      cases i with
      | zero => simp [flats]
      | succ i =>
        have h5 : (i + 1) * s = (enc y).length + i * s := by rw [Nat.add_mul, Nat.one_mul, he]; omega
        have e2 : flats enc (y :: l.take i) = enc y ++ flats enc (l.take i) := by unfold flats; simp
        rw [e, List.take_succ_cons, List.drop_succ_cons, e2, h5, List.take_length_add_append, List.drop_length_add_append]
        exact ⟨by rw [(ih i).1], (ih i).2⟩
  rw [(ht l i).1, (ht l i).2, flats_append]
  congr 1
end Go.Proofs.YtcdfbpdejbpgjaaGreat
