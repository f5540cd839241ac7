/- What the parts of mappings come to, as plain Lean. No condition: no program is in sight here. -/
import Derived.Test.YtecnkeakmedgnaaWOver
import Derived.Test.YtecnkeakmedgnaaWMove
import Derived.Test.YtecnkeakmedgnaaWSum
import Derived.Test.YtecnkeakmedgnaaWMaps
import Derived.Test.YtecnkeakmedgnaaPart2
namespace Go.Proofs.Ytecnkeakmedgnaa
open Go.RowKit

theorem chkAll_nil (a : List Mp) : chkAll [a, []] = chk a := by
  simp only [chkAll]
  have : chk [] = 0 := rfl
  rw [this]
  split
  · rfl
  · simp; omega
theorem nil_chkAll (a : List Mp) : chkAll [[], a] = chk a := by
  simp only [chkAll]
  have : chk [] = 0 := rfl
  rw [this]
  simp
  omega
theorem overR_nil {a : List Mp} (h : chk a = 0) : overR a [] = a := by unfold overR; rw [chkAll_nil, if_pos h, mergeO_nil]
theorem nil_overR {a : List Mp} (h : chk a = 0) : overR [] a = a := by unfold overR; rw [nil_chkAll, if_pos h, nil_mergeO]
theorem chkFrom_of : ∀ (l : List Mp) (last : Int), IncP l → (∀ m ∈ l, last < m.v) → (∀ m ∈ l, 0 ≤ m.v ∧ m.v ≤ 281474976710655) → chkFrom last l = 0 := by
  intro l
  induction l with
  | nil => intro _ _ _ _; rfl
  | cons m r ih =>
    intro last h1 h2 h3
    obtain ⟨a1, a2⟩ := List.pairwise_cons.1 h1
    have := h2 m (by simp)
    have := h3 m (by simp)
    simp only [chkFrom]
    rw [if_neg (by omega), if_neg (by omega)]
    exact ih m.v a2 a1 (fun k hk => h3 k (List.mem_cons_of_mem _ hk))
theorem chk_of {l : List Mp} (h1 : IncP l) (h3 : ∀ m ∈ l, 0 ≤ m.v ∧ m.v ≤ 281474976710655) : chk l = 0 := chkFrom_of l (-1) h1 (fun m hm => by have := h3 m hm; omega) h3
theorem chk_incP {l : List Mp} (h : chk l = 0) : IncP l := inc_iff.1 (chk_inc h)
theorem chk_mem {l : List Mp} (h : chk l = 0) : ∀ m ∈ l, 0 ≤ m.v ∧ m.v ≤ 281474976710655 := fun m hm => by
  obtain ⟨j, hj, rfl⟩ := List.mem_iff_getElem.1 hm
  have := chk_range h hj
  rwa [nth_get mp0 l j hj] at this
/-- Cut in two. -/
theorem cut_inc (t : Int) : ∀ (a : List Mp), IncP a → (∀ m ∈ a, 0 ≤ m.v ∧ m.v ≤ 281474976710655) → cutF a 0 t ++ cutF a t 4611686018427387904 = a := by
  intro a
  induction a with
  | nil => intro _ _; rfl
  | cons x a ih =>
    intro h1 h2
    obtain ⟨a1, a2⟩ := List.pairwise_cons.1 h1
    have hx := h2 x (by simp)
    have h3 := ih a2 (fun m hm => h2 m (List.mem_cons_of_mem _ hm))
    by_cases hlt : x.v < t
    · have e1 : cutF (x :: a) 0 t = x :: cutF a 0 t := by unfold cutF; rw [List.filter_cons_of_pos]; simp; omega
      have e2 : cutF (x :: a) t 4611686018427387904 = cutF a t 4611686018427387904 := by unfold cutF; rw [List.filter_cons_of_neg]; simp; omega
      rw [e1, e2, List.cons_append, h3]
    · have e1 : cutF (x :: a) 0 t = [] := by
        unfold cutF
        refine List.filter_eq_nil_iff.2 fun m hm => ?_
        rcases List.mem_cons.1 hm with rfl | hm
        · simp; omega
        · have := a1 m hm; simp; omega
      have e2 : cutF (x :: a) t 4611686018427387904 = x :: a := by
        unfold cutF
        refine List.filter_eq_self.2 fun m hm => ?_
        have h5 := h2 m hm
        have h4 : t ≤ m.v := by
          rcases List.mem_cons.1 hm with rfl | hm
          · omega
          · have := a1 m hm; omega
        simp; omega
      rw [e1, e2]; rfl
theorem cut_split {a : List Mp} (h : chk a = 0) (t : Int) : cutR a 0 t ++ cutR a t 4611686018427387904 = a := by
  unfold cutR
  rw [if_pos h, if_pos h]
  exact cut_inc t a (chk_incP h) (chk_mem h)
/-- Moved there and back. -/
theorem move_there {a : List Mp} {b : Int} (h : chk a = 0) (he : moveE a b = 0) : moveR a b = moveL a b ∧ chk (moveL a b) = 0 ∧ moveE (moveL a b) (-b) = 0 ∧ moveR (moveL a b) (-b) = a ∧ ∀ m ∈ a, -m.v ≤ b ∧ b ≤ 281474976710655 - m.v := by
  have hall : allMove a b = true := by
    cases hc : allMove a b with
    | true => rfl
    | false => unfold moveE at he; rw [if_pos h, hc] at he; simp at he
  have hm : ∀ m ∈ a, -m.v ≤ b ∧ b ≤ 281474976710655 - m.v := fun m hm => by
    have := List.all_eq_true.1 hall m hm
    unfold movesB at this
    simpa using this
  have hchk : chk (moveL a b) = 0 := by
    refine chk_of ?_ ?_
    · unfold moveL IncP
      rw [List.pairwise_map]
      exact (chk_incP h).imp fun h => by simp only; omega
    · intro m hmm
      obtain ⟨k, hk, rfl⟩ := List.mem_map.1 hmm
      have := hm k hk
      simp only
      omega
  have hall2 : allMove (moveL a b) (-b) = true := by
    refine List.all_eq_true.2 fun m hmm => ?_
    obtain ⟨k, hk, rfl⟩ := List.mem_map.1 hmm
    have := hm k hk
    have := chk_mem h k hk
    unfold movesB
    simp
    omega
  have hback : moveL (moveL a b) (-b) = a := by
    unfold moveL
    rw [List.map_map]
    conv => rhs; rw [← List.map_id a]
    apply List.map_congr_left
    intro m _
    simp only [Function.comp, id]
    have : m.v + b + -b = m.v := by omega
    rw [this]
  refine ⟨by unfold moveR; rw [if_pos h, if_pos hall], hchk, by unfold moveE; rw [if_pos hchk, if_pos hall2], by unfold moveR; rw [if_pos hchk, if_pos hall2, hback], hm⟩
/-- Over others a list hides just what it has. -/
theorem over_len {a b : List Mp} (ha : chk a = 0) (hb : chk b = 0) : (mergeO b a).length = (minusF b a).length + a.length := by
  have h1 := chk_incP ha
  have h2 := chk_incP hb
  have hmin : IncP (minusF b a) := h2.filter _
  have hne : (minusF b a ++ a).Nodup := by
    refine List.pairwise_append.2 ⟨hmin.imp fun h e => by rw [e] at h; omega, h1.imp fun h e => by rw [e] at h; omega, fun x hx y hy he => ?_⟩
    have := (List.mem_filter.1 hx).2
    have h2 : hasV a x.v = true := hasV_mem.2 ⟨y, hy, by rw [he]⟩
    rw [h2] at this
    cases this
  have hnd : (mergeO b a).Nodup := (merge_inc _ b a (Nat.le_refl _) h2 h1).imp fun h e => by rw [e] at h; omega
  have hp := (List.perm_ext_iff_of_nodup hnd hne).2 fun m => by
    rw [mem_merge _ b a (Nat.le_refl _) h2 h1, List.mem_append]
    unfold minusF
    rw [List.mem_filter]
    simp only [Bool.not_eq_true']
    exact Or.comm
  rw [hp.length_eq, List.length_append]
theorem over_chk {a b : List Mp} (ha : chk a = 0) (hb : chk b = 0) : chk (mergeO b a) = 0 := by
  refine chk_of (merge_inc _ b a (Nat.le_refl _) (chk_incP hb) (chk_incP ha)) fun m hm => ?_
  rcases (mem_merge _ b a (Nat.le_refl _) (chk_incP hb) (chk_incP ha) m).1 hm with h | ⟨h, _⟩
  · exact chk_mem ha m h
  · exact chk_mem hb m h
theorem keys_over : ∀ (n : Nat) (b a : List Mp), b.length + a.length ≤ n → cntK 1 (keys (mergeO b a) a) = a.length ∧ cntK 2 (keys (mergeO b a) a) = 0 := by
  intro n
  induction n with
  | zero =>
    intro b a hn
    obtain rfl : a = [] := List.eq_nil_of_length_eq_zero (by omega)
    obtain rfl : b = [] := List.eq_nil_of_length_eq_zero (by omega)
    simp [mergeO, keys, cntK]
  | succ n ih =>
    intro b a hn
    cases a with
    | nil => rw [keys_nil_right, cntK_map, cntK_map]; simp
    | cons y a =>
      simp only [List.length_cons] at hn
      have hk : ∀ M, keys (y :: M) (y :: a) = (1, y.v) :: keys M a := fun M => by rw [keys_eq y y M a rfl, if_pos rfl]
      cases b with
      | nil =>
        have := ih [] a (by simp; omega)
        rw [nil_mergeO] at this ⊢
        rw [hk]
        simp only [cntK, List.length_cons]
        rw [this.1, this.2]
        simp; omega
      | cons x b =>
        simp only [List.length_cons] at hn
        rcases Int.lt_trichotomy x.v y.v with h | h | h
        · have := ih b (y :: a) (by simp only [List.length_cons]; omega)
          rw [mergeO_lt h, keys_lt x y _ a h]
          simp only [cntK]
          rw [this.1, this.2]
          simp
        · have := ih b a (by omega)
          rw [mergeO_eq h, hk]
          simp only [cntK, List.length_cons]
          rw [this.1, this.2]
          simp; omega
        · have := ih (x :: b) a (by simp only [List.length_cons]; omega)
          rw [mergeO_gt h, hk]
          simp only [cntK, List.length_cons]
          rw [this.1, this.2]
          simp; omega
theorem over_sums {a b : List Mp} (ha : chk a = 0) (hb : chk b = 0) : sumK 1 (partsOf (mergeO b a) a) = a.length ∧ sumK 3 (partsOf (mergeO b a) a) = (minusF b a).length := by
  obtain ⟨h1, h2⟩ := keys_over _ b a (Nat.le_refl _)
  have h3 := (cnt_all _ (mergeO b a) a (Nat.le_refl _)).1
  have h4 := over_len ha hb
  rw [sumK_parts, sumK_parts]
  exact ⟨h1, by omega⟩
end Go.Proofs.Ytecnkeakmedgnaa
