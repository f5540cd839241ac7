/- The order of candidates, as plain Lean. No condition. -/
import Derived.Test.YtolpgblegbahgaaWRank6
namespace Go.Proofs.Ytolpgblegbahgaa
open Go.RowKit

def keyC (c : Cand) : List Int := [firstI c, -c.pool.latest, -(c.pool.devs.length : Int), -c.pool.count, c.top, c.details]
def lexC : List Int → List Int → Int
  | x :: a, y :: b => if cmpI x y = 0 then lexC a b else cmpI x y
  | _, _ => 0
theorem cmpI_neg (a b : Int) : cmpI (-a) (-b) = cmpI b a := by
  unfold cmpI
  by_cases h1 : a < b
  · rw [if_neg (by omega), if_pos (by omega), if_neg (by omega), if_pos (by omega)]
  · by_cases h2 : b < a
    · rw [if_pos (by omega), if_pos (by omega)]
    · rw [if_neg (by omega), if_neg (by omega), if_neg (by omega), if_neg (by omega)]
theorem cmpC_lex (a b : Cand) : cmpC a b = lexC (keyC a) (keyC b) := by
  simp only [cmpC, cmpL, keyC, lexC, orI, cmpI_neg]
theorem cmpI_self (a : Int) : cmpI a a = 0 := by simp [cmpI]
theorem cmpI_zero {a b : Int} (h : cmpI a b = 0) : a = b := by
  unfold cmpI at h
  split at h
  · cases h
  · split at h
    · cases h
    · omega
theorem cmpI_lt {a b : Int} (h : cmpI a b < 0) : a < b := by
  unfold cmpI at h
  split at h
  · assumption
  · split at h <;> omega
theorem cmpI_of_lt {a b : Int} (h : a < b) : cmpI a b = -1 := by simp [cmpI, h]
theorem lexC_self (a : List Int) : lexC a a = 0 := by
  induction a with
  | nil => rfl
  | cons x a ih => simp [lexC, cmpI_self, ih]
theorem lexC_trans : ∀ (a b c : List Int), a.length = b.length → b.length = c.length → lexC a b < 0 → lexC b c < 0 → lexC a c < 0 := by
  intro a
  induction a with
  | nil =>
    intro b c hl _ h1
    cases b with
    | nil => simp [lexC] at h1
    | cons y b => simp at hl
  | cons x a ih =>
    intro b c hl hl2 h1 h2
    cases b with
    | nil => simp at hl
    | cons y b =>
      cases c with
      | nil => simp at hl2
      | cons z c =>
        simp only [lexC] at h1 h2 ⊢
        by_cases e1 : cmpI x y = 0
        · rw [if_pos e1] at h1
          obtain rfl := cmpI_zero e1
          by_cases e2 : cmpI x z = 0
          · rw [if_pos e2] at h2 ⊢
            exact ih b c (by simpa using hl) (by simpa using hl2) h1 h2
          · rw [if_neg e2] at h2 ⊢
            exact h2
        · rw [if_neg e1] at h1
          have hxy := cmpI_lt h1
          have hyz : y ≤ z := by
            by_cases e2 : cmpI y z = 0
            · have := cmpI_zero e2; omega
            · rw [if_neg e2] at h2
              have := cmpI_lt h2; omega
          rw [cmpI_of_lt (show x < z by omega)]
          simp
theorem keyC_len (a b : Cand) : (keyC a).length = (keyC b).length := rfl
theorem ahead_irrefl (a : Cand) : cmpC a a = 0 := by rw [cmpC_lex, lexC_self]
theorem ahead_trans {a b c : Cand} (h1 : cmpC a b < 0) (h2 : cmpC b c < 0) : cmpC a c < 0 := by
  rw [cmpC_lex] at *
  exact lexC_trans _ _ _ (keyC_len a b) (keyC_len b c) h1 h2
theorem ahead_asymm {a b : Cand} (h : cmpC a b < 0) : ¬ cmpC b a < 0 := fun h2 => by
  have := ahead_trans h h2
  rw [ahead_irrefl] at this
  omega
theorem minFrom_best : ∀ (l : List Cand) (m : Cand) (P : List Cand), (∀ c ∈ P, ¬ cmpC c m < 0) → ∀ c, c ∈ P ∨ c = m ∨ c ∈ l → ¬ cmpC c (minFrom m l) < 0 := by
  intro l
  induction l with
  | nil =>
    intro m P hP c hc
    rcases hc with h | rfl | h
    · exact hP c h
    · show ¬ cmpC c c < 0
      rw [ahead_irrefl]; omega
    · cases h
  | cons x l ih =>
    intro m P hP c hc
    simp only [minFrom]
    by_cases h : cmpC x m < 0
    · rw [if_pos h]
      refine ih x (m :: P) ?_ c ?_
      · intro d hd hdx
        rcases List.mem_cons.1 hd with rfl | hd
        · exact ahead_asymm h hdx
        · exact hP d hd (ahead_trans hdx h)
      · rcases hc with hc | rfl | hc
        · exact .inl (by simp [hc])
        · exact .inl (by simp)
        · rcases List.mem_cons.1 hc with rfl | hc
          · exact .inr (.inl rfl)
          · exact .inr (.inr hc)
    · rw [if_neg h]
      refine ih m (x :: P) ?_ c ?_
      · intro d hd
        rcases List.mem_cons.1 hd with rfl | hd
        · exact h
        · exact hP d hd
      · rcases hc with hc | rfl | hc
        · exact .inl (by simp [hc])
        · exact .inr (.inl rfl)
        · rcases List.mem_cons.1 hc with rfl | hc
          · exact .inl (by simp)
          · exact .inr (.inr hc)
theorem minC_best {l : List Cand} {c : Cand} (hc : c ∈ l) : ¬ cmpC c (minC l) < 0 := by
  cases l with
  | nil => cases hc
  | cons x l =>
    refine minFrom_best l x [] (fun _ h => by cases h) c ?_
    rcases List.mem_cons.1 hc with rfl | hc
    · exact .inr (.inl rfl)
    · exact .inr (.inr hc)
/-- A small pool's candidate may be compared. -/
theorem few_of {c : Cand} (h : c.pool.ok) (hf : fewB c.pool = true) : c.few ∧ ∀ k, k < c.pool.devs.length → (nth dev0 c.pool.devs k).maps.length ≤ 2199023255552 := by
  simp only [fewB, decide_eq_true_eq] at hf
  refine ⟨⟨h, by omega, by omega⟩, fun k hk => ?_⟩
  have h1 := countL_take c.pool.devs k hk
  have h2 := countL_take_le c.pool.devs (k + 1)
  have h3 := countL_nonneg (c.pool.devs.take k)
  have h4 := hf.2
  unfold Pool.count at h4
  omega
end Go.Proofs.Ytolpgblegbahgaa
