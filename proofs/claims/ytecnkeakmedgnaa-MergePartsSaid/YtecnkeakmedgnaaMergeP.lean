/- Mappings over others, without others, cut and moved, as plain Lean. No condition: no program is in sight here. -/
import Derived.Test.YtecnkeakmedgnaaSearchP
namespace Go.Proofs.Ytecnkeakmedgnaa
open Go.RowKit

abbrev IncP (l : List Mp) : Prop := l.Pairwise fun x y => x.v < y.v
theorem inc_iff {l : List Mp} : Inc l ↔ IncP l := by
  unfold IncP
  rw [List.pairwise_iff_getElem]
  constructor
  · intro h i j hi hj hij
    have := h i j hij hj
    rwa [nth_get mp0 l i hi, nth_get mp0 l j hj] at this
  · intro h i j hij hj
    rw [nth_get mp0 l i (by omega), nth_get mp0 l j hj]
    exact h i j (by omega) hj hij
theorem incP_ext : ∀ {l r : List Mp}, IncP l → IncP r → (∀ m, m ∈ l ↔ m ∈ r) → l = r := by
  intro l
  induction l with
  | nil =>
    intro r _ _ h
    cases r with
    | nil => rfl
    | cons y r => have := (h y).2 (by simp); simp at this
  | cons x l ih =>
    intro r hl hr h
    cases r with
    | nil => have := (h x).1 (by simp); simp at this
    | cons y r =>
      obtain ⟨h1, h2⟩ := List.pairwise_cons.1 hl
      obtain ⟨h3, h4⟩ := List.pairwise_cons.1 hr
      have hxy : x = y := by
        rcases List.mem_cons.1 ((h x).1 (by simp)) with e | e
        · exact e
        · rcases List.mem_cons.1 ((h y).2 (by simp)) with e2 | e2
          · exact e2.symm
          · have := h1 y e2
            have := h3 x e
            omega
      subst hxy
      rw [ih h2 h4 fun m => ?_]
      constructor
      · intro hm
        rcases List.mem_cons.1 ((h m).1 (List.mem_cons_of_mem _ hm)) with e | e
        · have := h1 m hm; rw [e] at this; omega
        · exact e
      · intro hm
        rcases List.mem_cons.1 ((h m).2 (List.mem_cons_of_mem _ hm)) with e | e
        · have := h3 m hm; rw [e] at this; omega
        · exact e
/-- Mappings over others. -/
def mergeO : List Mp → List Mp → List Mp
  | [], b => b
  | x :: a, [] => x :: a
  | x :: a, y :: b => if x.v < y.v then x :: mergeO a (y :: b) else if x.v = y.v then y :: mergeO a b else y :: mergeO (x :: a) b
termination_by a b => a.length + b.length
def minusF (a b : List Mp) : List Mp := a.filter fun m => !hasV b m.v
def cutF (l : List Mp) (f t : Int) : List Mp := l.filter fun m => decide (f ≤ m.v) && decide (m.v < t)
def movesB (v by_ : Int) : Bool := decide (-v ≤ by_) && decide (by_ ≤ 281474976710655 - v)
def moveL (l : List Mp) (by_ : Int) : List Mp := l.map fun m => ⟨m.v + by_, m.b, m.t⟩
theorem mergeO_nil (a : List Mp) : mergeO a [] = a := by cases a <;> simp [mergeO]
theorem nil_mergeO (b : List Mp) : mergeO [] b = b := by simp [mergeO]
theorem mergeO_lt {x y : Mp} {a b : List Mp} (h : x.v < y.v) : mergeO (x :: a) (y :: b) = x :: mergeO a (y :: b) := by rw [mergeO, if_pos h]
theorem mergeO_eq {x y : Mp} {a b : List Mp} (h : x.v = y.v) : mergeO (x :: a) (y :: b) = y :: mergeO a b := by rw [mergeO, if_neg (by omega), if_pos h]
theorem mergeO_gt {x y : Mp} {a b : List Mp} (h : y.v < x.v) : mergeO (x :: a) (y :: b) = y :: mergeO (x :: a) b := by rw [mergeO, if_neg (by omega), if_neg (by omega)]
theorem hasV_mem {l : List Mp} {v : Int} : hasV l v = true ↔ ∃ m ∈ l, m.v = v := by
  unfold hasV; rw [List.any_eq_true]; simp
theorem mem_merge : ∀ (n : Nat) (a b : List Mp), a.length + b.length ≤ n → IncP a → IncP b → ∀ m, m ∈ mergeO a b ↔ m ∈ b ∨ (m ∈ a ∧ hasV b m.v = false) := by
  intro n
  induction n with
  | zero =>
    intro a b hn _ _ m
    obtain rfl : a = [] := List.eq_nil_of_length_eq_zero (by omega)
    obtain rfl : b = [] := List.eq_nil_of_length_eq_zero (by omega)
    simp [mergeO]
  | succ n ih =>
    intro a b hn ha hb m
    cases a with
    | nil => simp [mergeO]
    | cons x a =>
      cases b with
      | nil => rw [mergeO_nil]; simp [hasV]
      | cons y b =>
        simp only [List.length_cons] at hn
        obtain ⟨a1, a2⟩ := List.pairwise_cons.1 ha
        obtain ⟨b1, b2⟩ := List.pairwise_cons.1 hb
        have hh : ∀ {l : List Mp} {v : Int}, hasV l v = false ↔ ∀ m ∈ l, m.v ≠ v := fun {l v} => by
          rw [← Bool.not_eq_true, hasV_mem]
          exact ⟨fun h m hm he => h ⟨m, hm, he⟩, fun h ⟨m, hm, he⟩ => h m hm he⟩
        rcases Int.lt_trichotomy x.v y.v with h | h | h
        · rw [mergeO_lt h, List.mem_cons, ih a (y :: b) (by simp only [List.length_cons]; omega) a2 hb, List.mem_cons, List.mem_cons]
          have hx : hasV (y :: b) x.v = false := hh.2 fun m hm => by
            rcases List.mem_cons.1 hm with rfl | hm
            · omega
            · have := b1 m hm; omega
          constructor
          · rintro (rfl | h2 | ⟨h2, h3⟩)
            · exact .inr ⟨.inl rfl, hx⟩
            · exact .inl h2
            · exact .inr ⟨.inr h2, h3⟩
          · rintro (h2 | ⟨rfl | h2, h3⟩)
            · exact .inr (.inl h2)
            · exact .inl rfl
            · exact .inr (.inr ⟨h2, h3⟩)
        · rw [mergeO_eq h, List.mem_cons, ih a b (by omega) a2 b2, List.mem_cons, List.mem_cons]
          constructor
          · rintro (rfl | h2 | ⟨h2, h3⟩)
            · exact .inl (.inl rfl)
            · exact .inl (.inr h2)
            · refine .inr ⟨.inr h2, hh.2 fun k hk => ?_⟩
              rcases List.mem_cons.1 hk with rfl | hk
              · have := a1 m h2; omega
              · exact hh.1 h3 k hk
          · rintro ((rfl | h2) | ⟨rfl | h2, h3⟩)
            · exact .inl rfl
            · exact .inr (.inl h2)
            · exact absurd h.symm (hh.1 h3 y (by simp))
            · exact .inr (.inr ⟨h2, hh.2 fun k hk => hh.1 h3 k (List.mem_cons_of_mem _ hk)⟩)
        · rw [mergeO_gt h, List.mem_cons, ih (x :: a) b (by simp only [List.length_cons]; omega) ha b2, List.mem_cons (b := y)]
          constructor
          · rintro (rfl | h2 | ⟨h2, h3⟩)
            · exact .inl (.inl rfl)
            · exact .inl (.inr h2)
            · refine .inr ⟨h2, hh.2 fun k hk => ?_⟩
              rcases List.mem_cons.1 hk with rfl | hk
              · rcases List.mem_cons.1 h2 with rfl | h2
                · omega
                · have := a1 m h2; omega
              · exact hh.1 h3 k hk
          · rintro ((rfl | h2) | ⟨h2, h3⟩)
            · exact .inl rfl
            · exact .inr (.inl h2)
            · exact .inr (.inr ⟨h2, hh.2 fun k hk => hh.1 h3 k (List.mem_cons_of_mem _ hk)⟩)
theorem merge_head {a b : List Mp} {m : Mp} {v : Int} (ha : ∀ k ∈ a, v < k.v) (hb : ∀ k ∈ b, v < k.v) (hia : IncP a) (hib : IncP b) (hm : m ∈ mergeO a b) : v < m.v := by
  rcases (mem_merge _ a b (Nat.le_refl _) hia hib m).1 hm with h | ⟨h, _⟩
  · exact hb m h
  · exact ha m h
theorem merge_inc : ∀ (n : Nat) (a b : List Mp), a.length + b.length ≤ n → IncP a → IncP b → IncP (mergeO a b) := by
  intro n
  induction n with
  | zero =>
    intro a b hn _ _
    obtain rfl : a = [] := List.eq_nil_of_length_eq_zero (by omega)
    obtain rfl : b = [] := List.eq_nil_of_length_eq_zero (by omega)
    simp [mergeO]
  | succ n ih =>
    intro a b hn ha hb
    cases a with
    | nil => rw [nil_mergeO]; exact hb
    | cons x a =>
      cases b with
      | nil => rw [mergeO_nil]; exact ha
      | cons y b =>
        simp only [List.length_cons] at hn
        obtain ⟨a1, a2⟩ := List.pairwise_cons.1 ha
        obtain ⟨b1, b2⟩ := List.pairwise_cons.1 hb
        rcases Int.lt_trichotomy x.v y.v with h | h | h
        · rw [mergeO_lt h]
          refine List.pairwise_cons.2 ⟨fun m hm => merge_head a1 (fun k hk => ?_) a2 hb hm, ih _ _ (by simp only [List.length_cons]; omega) a2 hb⟩
          rcases List.mem_cons.1 hk with rfl | hk
          · exact h
          · have := b1 k hk; omega
        · rw [mergeO_eq h]
          exact List.pairwise_cons.2 ⟨fun m hm => merge_head (fun k hk => by have := a1 k hk; omega) b1 a2 b2 hm, ih _ _ (by omega) a2 b2⟩
        · rw [mergeO_gt h]
          refine List.pairwise_cons.2 ⟨fun m hm => merge_head (fun k hk => ?_) b1 ha b2 hm, ih _ _ (by simp only [List.length_cons]; omega) ha b2⟩
          rcases List.mem_cons.1 hk with rfl | hk
          · exact h
          · have := a1 k hk; omega
theorem mergeO_len : ∀ (n : Nat) (a b : List Mp), a.length + b.length ≤ n → (mergeO a b).length ≤ a.length + b.length := by
  intro n
  induction n with
  | zero =>
    intro a b hn
    obtain rfl : a = [] := List.eq_nil_of_length_eq_zero (by omega)
    obtain rfl : b = [] := List.eq_nil_of_length_eq_zero (by omega)
    simp [mergeO]
  | succ n ih =>
    intro a b hn
    cases a with
    | nil => rw [nil_mergeO]; simp
    | cons x a =>
      cases b with
      | nil => rw [mergeO_nil]; simp
      | cons y b =>
        simp only [List.length_cons] at hn ⊢
        rcases Int.lt_trichotomy x.v y.v with h | h | h
        · rw [mergeO_lt h]; have := ih a (y :: b) (by simp only [List.length_cons]; omega); simp only [List.length_cons] at this ⊢; omega
        · rw [mergeO_eq h]; have := ih a b (by omega); simp only [List.length_cons] at this ⊢; omega
        · rw [mergeO_gt h]; have := ih (x :: a) b (by simp only [List.length_cons]; omega); simp only [List.length_cons] at this ⊢; omega
/-- What the program sorts is what the reference lays side by side. -/
theorem sorted_merge {a b l : List Mp} (ha : Inc a) (hb : Inc b) (hp : l.Perm (minusF a b ++ b)) (hs : ∀ i j, i < j → j < l.length → (nth mp0 l i).v ≤ (nth mp0 l j).v) : l = mergeO a b := by
  rw [inc_iff] at ha hb
  have hmin : IncP (minusF a b) := ha.filter _
  have hne : (minusF a b ++ b).Pairwise fun x y => x.v ≠ y.v := by
    refine List.pairwise_append.2 ⟨hmin.imp fun h => by omega, hb.imp fun h => by omega, fun x hx y hy he => ?_⟩
    have := (List.mem_filter.1 hx).2
    have h2 : hasV b x.v = true := hasV_mem.2 ⟨y, hy, he.symm⟩
    rw [h2] at this
    cases this
  have hl : l.Pairwise fun x y => x.v ≠ y.v := (hp.pairwise_iff (fun h => fun e => h e.symm)).2 hne
  have hinc : IncP l := by
    rw [← inc_iff]
    intro i j hij hj
    have h1 := hs i j hij hj
    have h2 := List.pairwise_iff_getElem.1 hl i j (by omega) hj hij
    rw [nth_get mp0 l i (by omega), nth_get mp0 l j hj] at *
    omega
  refine incP_ext hinc (merge_inc _ a b (Nat.le_refl _) ha hb) fun m => ?_
  rw [hp.mem_iff, mem_merge _ a b (Nat.le_refl _) ha hb, List.mem_append]
  unfold minusF
  rw [List.mem_filter]
  simp only [Bool.not_eq_true']
  exact Or.comm
end Go.Proofs.Ytecnkeakmedgnaa
