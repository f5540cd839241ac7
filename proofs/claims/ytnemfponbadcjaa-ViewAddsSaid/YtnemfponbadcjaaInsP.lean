/- Sorting by insertion, as plain Lean: whatever the order. No condition: no program is in sight here. -/
import Derived.Test.YtnemfponbadcjaaBase
import Derived.Sort.Statements
namespace Go.Proofs.Ytnemfponbadcjaa
open Go.Sort

section
variable {α : Type} {d : α} {lt : α → α → Bool}
def SortedTo (d : α) (lt : α → α → Bool) (c : List α) (i : Nat) : Prop := ∀ a b, a < b → b < i → lt (nth d c b) (nth d c a) = false
structure InsAt (d : α) (lt : α → α → Bool) (c : List α) (i k : Nat) : Prop where
  ki : k ≤ i
  il : i < c.length
  rest : ∀ a b, a < b → b ≤ i → a ≠ k → b ≠ k → lt (nth d c b) (nth d c a) = false
  up : ∀ b, k < b → b ≤ i → lt (nth d c b) (nth d c k) = false
def swapL (d : α) (c : List α) (k : Nat) : List α := (c.set k (nth d c (k - 1))).set (k - 1) (nth d c k)
theorem nth_set' (l : List α) (r j : Nat) (x : α) (hr : r < l.length) : nth d (l.set r x) j = if j = r then x else nth d l j := by
  unfold nth
  rw [List.getD_eq_getElem?_getD, List.getD_eq_getElem?_getD, List.getElem?_set]
  by_cases h : r = j
  · subst h; simp [hr]
  · rw [if_neg h, if_neg (fun e => h e.symm)]
theorem swapL_len (c : List α) (k : Nat) : (swapL d c k).length = c.length := by unfold swapL; simp
theorem swapL_at {c : List α} {k : Nat} (h0 : 0 < k) (hk : k < c.length) (j : Nat) : nth d (swapL d c k) j = if j = k - 1 then nth d c k else if j = k then nth d c (k - 1) else nth d c j := by
  unfold swapL
  rw [nth_set' _ _ _ _ (by rw [List.length_set]; omega), nth_set' _ _ _ _ hk]
theorem swapL_app (t1 t2 : List α) (x y : α) : swapL d (t1 ++ x :: y :: t2) (t1.length + 1) = t1 ++ y :: x :: t2 := by
  have e1 : nth d (t1 ++ x :: y :: t2) t1.length = x := nth_append_len d t1 (y :: t2) x
  have e2 : nth d (t1 ++ x :: y :: t2) (t1.length + 1) = y := by
    have := nth_append_len d (t1 ++ [x]) t2 y
    simpa using this
  unfold swapL
  rw [Nat.add_sub_cancel, e1, e2, List.set_append_right _ _ (by omega), List.set_append_right _ _ (by omega)]
  simp
theorem swapL_perm {c : List α} {k : Nat} (h0 : 0 < k) (hk : k < c.length) : (swapL d c k).Perm c := by
  obtain ⟨m, rfl⟩ : ∃ m, k = m + 1 := ⟨k - 1, by omega⟩
  have e1 : c = c.take m ++ (nth d c m :: nth d c (m + 1) :: c.drop (m + 2)) := by
    conv => lhs; rw [← List.take_append_drop m c]
    rw [drop_nth d c m (by omega), drop_nth d c (m + 1) hk]
  have hl : (c.take m).length = m := by rw [List.length_take]; omega
  generalize c.take m = t1 at *
  generalize c.drop (m + 2) = t2 at *
  generalize nth d c m = x at *
  generalize nth d c (m + 1) = y at *
  subst e1 hl
  rw [swapL_app]
  exact List.Perm.append_left _ (List.Perm.swap _ _ _)
theorem InsAt.start {c : List α} {i : Nat} (h : SortedTo d lt c i) (hi : i < c.length) : InsAt d lt c i i :=
  ⟨Nat.le_refl _, hi, fun a b hab hb _ hbi => h a b hab (by omega), fun b h1 h2 => by omega⟩
theorem InsAt.step {c : List α} {i k : Nat} (h : InsAt d lt c i k) (h0 : 0 < k) (hS : SWO lt) (hlt : lt (nth d c k) (nth d c (k - 1)) = true) : InsAt d lt (swapL d c k) i (k - 1) := by
  have hk : k < c.length := by have := h.ki; have := h.il; omega
  have hki := h.ki
  refine ⟨by omega, by rw [swapL_len]; exact h.il, fun a b hab hb ha hb1 => ?_, fun b h1 h2 => ?_⟩
  · rw [swapL_at h0 hk, swapL_at h0 hk, if_neg hb1, if_neg ha]
    by_cases hbk : b = k
    · rw [if_pos hbk, if_neg (by omega)]
      exact h.rest a (k - 1) (by omega) (by omega) (by omega) (by omega)
    · rw [if_neg hbk]
      by_cases hak : a = k
      · rw [if_pos hak]
        exact h.rest (k - 1) b (by omega) hb (by omega) hbk
      · rw [if_neg hak]
        exact h.rest a b hab hb hak hbk
  · rw [swapL_at h0 hk, swapL_at h0 hk, if_neg (by omega), if_pos rfl]
    by_cases hbk : b = k
    · rw [if_pos hbk]
      cases hc : lt (nth d c (k - 1)) (nth d c k) with
      | false => rfl
      | true =>
        have := hS.trans _ _ _ hlt hc
        rw [hS.irrefl] at this
        cases this
    · rw [if_neg hbk]
      exact h.up b (by omega) h2
theorem InsAt.done {c : List α} {i k : Nat} (h : InsAt d lt c i k) (hS : SWO lt) (hlt : k = 0 ∨ lt (nth d c k) (nth d c (k - 1)) = false) : SortedTo d lt c (i + 1) := by
  intro a b hab hb
  by_cases hak : a = k
  · subst hak; exact h.up b hab (by omega)
  · by_cases hbk : b = k
    · subst hbk
      rcases hlt with h0 | h1
      · omega
      · by_cases ha1 : a = b - 1
        · subst ha1; exact h1
        · have h2 := h.rest a (b - 1) (by omega) (by have := h.ki; omega) (by omega) (by omega)
          exact hS.ntrans _ _ _ h1 h2
    · exact h.rest a b hab (by omega) hak hbk
/-- Two sorted lists of the same elements are one, if the order tells all of them apart. -/
theorem sorted_one : ∀ {l r : List α}, l.Perm r → l.Pairwise (fun x y => lt y x = false) → r.Pairwise (fun x y => lt y x = false) → (∀ x ∈ l, ∀ y ∈ l, lt x y = false → lt y x = false → x = y) → l = r := by
  intro l
  induction l with
  | nil => intro r h _ _ _; exact (List.nil_perm.1 h).symm ▸ rfl
  | cons x l ih =>
    intro r hp hl hr ht
    cases r with
    | nil => exact absurd hp.length_eq (by simp)
    | cons y r =>
      obtain ⟨l1, l2⟩ := List.pairwise_cons.1 hl
      obtain ⟨r1, r2⟩ := List.pairwise_cons.1 hr
      have hxy : x = y := by
        rcases List.mem_cons.1 (hp.mem_iff.1 (List.mem_cons_self (a := x) (l := l))) with e | e
        · exact e
        · rcases List.mem_cons.1 (hp.mem_iff.2 (List.mem_cons_self (a := y) (l := r))) with e2 | e2
          · exact e2.symm
          · exact ht x (by simp) y (by simp [e2]) (r1 x e) (l1 y e2)
      subst hxy
      rw [ih (List.Perm.cons_inv hp) l2 r2 fun a ha b hb => ht a (by simp [ha]) b (by simp [hb])]
theorem sortedTo_pair {c : List α} (h : SortedTo d lt c c.length) : c.Pairwise fun x y => lt y x = false := by
  rw [List.pairwise_iff_getElem]
  intro i j hi hj hij
  have := h i j hij hj
  rwa [nth_get d c i hi, nth_get d c j hj] at this
end
end Go.Proofs.Ytnemfponbadcjaa
