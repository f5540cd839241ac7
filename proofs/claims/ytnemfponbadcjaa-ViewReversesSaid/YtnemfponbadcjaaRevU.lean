/- The parts of a pool are told apart by device and block, as plain Lean. Condition: none. -/
import Derived.Test.YtnemfponbadcjaaRevR
namespace Go.Proofs.Ytnemfponbadcjaa
open Go.RowKit Go.Shelf

theorem outB_v {id f t : Int} {l : List Mp} (hv : ∀ i j, i < j → j < l.length → (nth mp0 l i).v < (nth mp0 l j).v) : ∀ k, k ≤ l.length →
    (outB id f t l [] k).Pairwise (fun x y : Bk => x.v < y.v) ∧ ∀ y ∈ outB id f t l [] k, y.id = id ∧ ∃ j, j < k ∧ y.v = (nth mp0 l j).v := by
  intro k
  induction k with
  | zero => intro _; simp [outB]
  | succ k ih =>
    intro hk
    obtain ⟨h1, h2⟩ := ih (by omega)
    show (stepB id f t l k (outB id f t l [] k)).Pairwise (fun x y : Bk => x.v < y.v) ∧ ∀ y ∈ stepB id f t l k (outB id f t l [] k), y.id = id ∧ ∃ j, j < k + 1 ∧ y.v = (nth mp0 l j).v
    have up : ∀ y : Bk, y.id = id ∧ (∃ j, j < k ∧ y.v = (nth mp0 l j).v) → y.id = id ∧ ∃ j, j < k + 1 ∧ y.v = (nth mp0 l j).v := fun y ⟨a, j, b, c⟩ => ⟨a, j, by omega, c⟩
    generalize outB id f t l [] k = o at *
    unfold stepB
    split
    · split
      · rcases List.eq_nil_or_concat o with rfl | ⟨i, z, rfl⟩
        · simp [bumpB]
        · rw [List.concat_eq_append] at *
          rw [bumpB_snoc]
          rw [List.pairwise_append] at *
          refine ⟨⟨h1.1, by simp, fun a ha b hb => ?_⟩, fun y hy => ?_⟩
          · rw [List.mem_singleton] at hb
            subst hb
            exact h1.2.2 a ha z (by simp)
          · rcases List.mem_append.1 hy with h | h
            · exact up y (h2 y (by simp [h]))
            · rw [List.mem_singleton] at h
              subst h
              exact up ⟨z.b, z.n + 1, z.id, z.v⟩ (h2 z (by simp))
      · rw [List.pairwise_append]
        refine ⟨⟨h1, by simp, fun a ha b hb => ?_⟩, fun y hy => ?_⟩
        · rw [List.mem_singleton] at hb
          subst hb
          obtain ⟨_, j, hj, e⟩ := h2 a ha
          rw [e]
          exact hv j k hj (by omega)
        · rcases List.mem_append.1 hy with h | h
          · exact up y (h2 y h)
          · rw [List.mem_singleton] at h
            subst h
            exact ⟨rfl, k, by omega, rfl⟩
    · exact ⟨h1, fun y hy => up y (h2 y hy)⟩
theorem pair_one {α : Type} {l : List α} {v : α → Int} (h : l.Pairwise fun x y => v x < v y) : ∀ x ∈ l, ∀ y ∈ l, v x = v y → x = y := by
  induction l with
  | nil => intro x hx; cases hx
  | cons a l ih =>
    obtain ⟨h1, h2⟩ := List.pairwise_cons.1 h
    intro x hx y hy e
    rcases List.mem_cons.1 hx with rfl | hx2
    · rcases List.mem_cons.1 hy with rfl | hy2
      · rfl
      · have := h1 y hy2; omega
    · rcases List.mem_cons.1 hy with rfl | hy2
      · have := h1 x hx2; omega
      · exact ih h2 x hx2 y hy2 e
theorem rawDev_out (f t : Int) (d : Dev) : rawDev f t d = outB d.id f t d.maps [] d.maps.length := by rw [outB_dev]; rfl
/-- A part of a pool is known by its device and its mapped block. -/
theorem rawP_one {f t : Int} {p : Pool} (h : poolChk p = 0) : ∀ x ∈ rawP f t p, ∀ y ∈ rawP f t p, x.id = y.id → x.v = y.v → x = y := by
  intro x hx y hy e1 e2
  unfold rawP at hx hy
  obtain ⟨d, hd, hx⟩ := List.mem_flatMap.1 hx
  obtain ⟨d', hd', hy⟩ := List.mem_flatMap.1 hy
  rw [rawDev_out] at hx hy
  have k1 := (outB_v (pool_dev h hd).2.1 (id := d.id) (f := f) (t := t) d.maps.length (Nat.le_refl _))
  have k2 := (outB_v (pool_dev h hd').2.1 (id := d'.id) (f := f) (t := t) d'.maps.length (Nat.le_refl _))
  have a1 := (k1.2 x hx).1
  have a2 := (k2.2 y hy).1
  obtain rfl : d = d' := pair_one (v := Dev.id) (pool_ids h) d hd d' hd' (by omega)
  exact pair_one (v := Bk.v) k1.1 x hx y hy e2
theorem rev_one {f t : Int} {p : Pool} (h : poolChk p = 0) {l r : List Bk} (hl : l.Perm (rawP f t p)) (hr : r.Perm (rawP f t p)) (sl : l.Pairwise (fun x y => aheadB y x = false)) (sr : r.Pairwise (fun x y => aheadB y x = false)) : l = r := by
  refine sorted_one (hl.trans hr.symm) sl sr fun x hx y hy h1 h2 => ?_
  rw [aheadB_no] at h1 h2
  exact rawP_one h x (hl.mem_iff.1 hx) y (hl.mem_iff.1 hy) (by omega) (by omega)
end Go.Proofs.Ytnemfponbadcjaa
