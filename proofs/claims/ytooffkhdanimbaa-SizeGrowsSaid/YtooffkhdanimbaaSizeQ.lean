/- How many blocks a pool needs, and what a mapping more does, as plain Lean. No condition: no program is in sight here. -/
import Derived.Test.YtooffkhdanimbaaWSize7
namespace Go.Proofs.Ytooffkhdanimbaa
open Go.RowKit

/-! ### The counts' sum -/
theorem sumL_set : ∀ (l : List Int) (k : Nat) (u : Int), k < l.length → sumL (l.set k u) = sumL l + u - nth 0 l k := by
  intro l
  induction l with
  | nil => intro k u h; simp at h
  | cons x l ih =>
    intro k u h
    cases k with
    | zero => simp [sumL, nth, List.getD]; omega
    | succ k =>
      have := ih k u (by simpa using h)
      simp only [List.set_cons_succ, sumL, this]
      have : nth 0 (x :: l) (k + 1) = nth 0 l k := by simp [nth, List.getD]
      omega
theorem sumL_bump (l : List Int) (b : Int) (h0 : 0 ≤ b) (h : b < l.length) : sumL (bump l b) = sumL l + 1 := by
  unfold bump
  rw [sumL_set l b.toNat _ (by omega)]
  omega
theorem sumL_bumps : ∀ (ms : List (Nat × Mp)) (l : List Int), (∀ x ∈ ms, 0 ≤ x.2.b ∧ x.2.b < l.length) → sumL (bumps l ms) = sumL l + ms.length := by
  intro ms
  induction ms with
  | nil => intro l _; simp [bumps]
  | cons x ms ih =>
    intro l h
    have hx := h x (by simp)
    have e : bumps l (x :: ms) = bumps (bump l x.2.b) ms := rfl
    rw [e, ih _ (fun y hy => by rw [bump_length]; exact h y (by simp [hy])), sumL_bump _ _ hx.1 hx.2]
    simp only [List.length_cons]
    omega
theorem sumL_zero (n : Nat) : sumL (List.replicate n 0) = 0 := by
  induction n with
  | zero => rfl
  | succ n ih => simp [List.replicate_succ, sumL, ih]
theorem sumL_refsOf {p : Pool} (h : poolChk p = 0) (h0 : 0 ≤ p.data) : sumL (refsOf p) = p.count := by
  unfold refsOf
  rw [sumL_bumps _ _ (fun x hx => by rw [List.length_replicate]; have := pairs_b h x hx; omega), sumL_zero]
  have := pairsFrom_length p.devs 0
  unfold Pool.count pairs
  omega
theorem cntG_sumL : ∀ (l : List Int), (∀ k, 0 ≤ nth 0 l k) → cntG 2 l ≤ sumL l ∧ 0 ≤ sumL l := by
  intro l
  induction l with
  | nil => intro _; simp [cntG, sumL]
  | cons x l ih =>
    intro h
    have h0 := h 0
    rw [nth_cons_zero] at h0
    obtain ⟨h1, h2⟩ := ih (fun k => by have := h (k + 1); rwa [nth_cons_succ] at this)
    simp only [cntG, sumL]
    split <;> omega
theorem refsOf_nonneg (p : Pool) (k : Nat) : 0 ≤ nth 0 (refsOf p) k := (counts_bound p.data.toNat (pairs p.devs) k).1

/-! ### Base and Need -/
def devSum : List Dev → Int
  | [] => 0
  | d :: r => nodesN 2 d.maps.length + devSum r
theorem devSum_append (l r : List Dev) : devSum (l ++ r) = devSum l + devSum r := by
  induction l with
  | nil => simp [devSum]
  | cons x l ih => simp only [List.cons_append, devSum, ih]; omega
theorem devSum_take (l : List Dev) (k : Nat) (h : k < l.length) : devSum (l.take (k + 1)) = devSum (l.take k) + nodesN 2 (nth dev0 l k).maps.length := by
  rw [take_nth dev0 l k h, devSum_append]; simp [devSum]
def oftenN (p : Pool) : Int := cntG 2 (refsRes p)
def baseOk (p : Pool) : Int := 1 + nodesN 3 p.devs.length + nodesN 1 p.devs.length + devSum p.devs + bitsN p.data + nodesN 4 (bitsN p.data) + nodesN 5 (oftenN p)
def baseN (p : Pool) : Int := if poolChk p = 0 then baseOk p else 0
def needB (b : Int) : Int := if b = 0 then 0 else b + 2 + (b + 1) / 959 + 1
def needN (p : Pool) : Int := needB (baseN p)

theorem levelsUp_pos {k : Int} (h : 1 ≤ k) : 1 ≤ sumL (levelsUp k) := by
  obtain ⟨h1, _, _⟩ := levelsUp_facts _ k (Nat.le_refl _) h
  have h2 := sumL_take_le h1 1 (by rw [levelsUp]; split <;> simp)
  have h3 : (levelsUp k).take 1 = [k] := by rw [levelsUp]; split <;> simp
  rw [h3] at h2
  simp only [sumL] at h2
  omega
theorem nodes_pos (t n : Int) : 1 ≤ nodesN t n := levelsUp_pos (overN_pos _ _)
theorem nodes_le (t n : Int) : nodesN t n ≤ 2 * overN n (maxN t true) := (levelsUp_facts _ _ (Nat.le_refl _) (overN_pos _ _)).2.1
theorem overN_mono {m n s : Int} (hs : 1 ≤ s) (h : m ≤ n) : overN m s ≤ overN n s := by
  unfold overN
  have := Int.ediv_le_ediv (show 0 < s by omega) (show m + s - 1 ≤ n + s - 1 by omega)
  omega
theorem levelsUp_mono : ∀ (f : Nat) (k m : Int), m.toNat ≤ f → 1 ≤ k → k ≤ m → sumL (levelsUp k) ≤ sumL (levelsUp m) := by
  intro f
  induction f with
  | zero => intro k m h1 h2 h3; omega
  | succ f ih =>
    intro k m h1 h2 h3
    by_cases hm : 1 < m
    · rw [levelsUp_more hm]
      have hp := levelsUp_pos (overN_pos m 18)
      have hl := overN_lt hm
      by_cases hk : 1 < k
      · rw [levelsUp_more hk]
        have := ih (overN k 18) (overN m 18) (by omega) (overN_pos _ _) (overN_mono (by omega) h3)
        simp only [sumL]
        omega
      · rw [levelsUp_one hk]
        simp only [sumL]
        omega
    · have : k = m := by omega
      rw [this]
      exact Int.le_refl _
theorem nodes_mono (t : Int) {m n : Int} (h : m ≤ n) : nodesN t m ≤ nodesN t n := by
  have hb := maxN_bound t true
  exact levelsUp_mono _ _ _ (Nat.le_refl _) (overN_pos _ _) (overN_mono (by omega) h)
theorem devSum_pos : ∀ l : List Dev, 0 ≤ devSum l := by
  intro l
  induction l with
  | nil => simp [devSum]
  | cons d l ih => simp only [devSum]; have := nodes_pos 2 d.maps.length; omega
theorem devSum_take_le (l : List Dev) (k : Nat) : devSum (l.take k) ≤ devSum l := by
  have : devSum l = devSum (l.take k) + devSum (l.drop k) := by rw [← devSum_append, List.take_append_drop]
  have := devSum_pos (l.drop k)
  omega
theorem devSum_le : ∀ l : List Dev, devSum l ≤ countL l + 2 * l.length := by
  intro l
  induction l with
  | nil => simp [devSum, countL]
  | cons d l ih =>
    simp only [devSum, countL, List.length_cons]
    have h1 := nodes_le 2 d.maps.length
    have h2 : maxN 2 true = 12 := by simp [maxN]
    rw [h2] at h1
    have h3 : 2 * overN (d.maps.length : Int) 12 ≤ d.maps.length + 2 := by unfold overN; omega
    omega
theorem bitsN_facts {n : Int} (h : n ≤ 65536) : 0 ≤ bitsN n ∧ bitsN n ≤ 69 := by
  unfold bitsN
  split <;> omega
/-- What a pool that may be tells of the numbers that its blocks are counted from. -/
theorem pool_few {p : Pool} (h : poolChk p = 0) : (0 ≤ p.data ∧ p.data ≤ 65536) ∧ p.devs.length ≤ 4096 ∧ p.count ≤ 16384 ∧ (∀ k, k < p.devs.length → (nth dev0 p.devs k).maps.length ≤ 16384) ∧ 0 ≤ oftenN p ∧ oftenN p ≤ p.count := by
  obtain ⟨q1, q2, _⟩ := poolChk_parts h
  have hdat : 0 ≤ p.data ∧ p.data ≤ 65536 := by simp [headB] at q1; exact inB_iff.1 q1.2.2
  simp only [sizeB, decide_eq_true_eq] at q2
  refine ⟨hdat, q2.1, q2.2, fun k hk => ?_, (cntG_bound 2 _).1, ?_⟩
  · have h1 := countL_take p.devs k hk
    have h2 := countL_take_le p.devs (k + 1)
    have h3 := countL_nonneg (p.devs.take k)
    have h4 := q2.2
    unfold Pool.count at h4
    omega
  · have h1 := cntG_sumL (refsOf p) (refsOf_nonneg p)
    rw [sumL_refsOf h hdat.1] at h1
    unfold oftenN refsRes
    rw [if_pos h]
    exact h1.1
theorem baseOk_bounds {p : Pool} (h : poolChk p = 0) : 5 ≤ baseOk p ∧ baseOk p ≤ 16 + 8 * p.devs.length + 4 * p.count + 208 + 4 := by
  obtain ⟨h1, h2, h3, _, h4, h5⟩ := pool_few h
  have b1 := bitsN_facts h1.2
  have a1 := nodes_pos 3 p.devs.length
  have a2 := nodes_pos 1 p.devs.length
  have a4 := nodes_pos 4 (bitsN p.data)
  have a5 := nodes_pos 5 (oftenN p)
  have d0 := devSum_pos p.devs
  have c1 := nodes_le 3 p.devs.length
  have c2 := nodes_le 1 p.devs.length
  have c4 := nodes_le 4 (bitsN p.data)
  have c5 := nodes_le 5 (oftenN p)
  have d1 := devSum_le p.devs
  have e1 : maxN 3 true = 6 := by simp [maxN]
  have e2 : maxN 1 true = 18 := by simp [maxN]
  have e4 : maxN 4 true = 9 := by simp [maxN]
  have e5 : maxN 5 true = 18 := by simp [maxN]
  rw [e1] at c1; rw [e2] at c2; rw [e4] at c4; rw [e5] at c5
  unfold Pool.count at *
  unfold baseOk
  unfold overN at c1 c2 c4 c5
  omega
theorem baseN_bounds (p : Pool) : 0 ≤ baseN p ∧ baseN p ≤ 131072 := by
  unfold baseN
  by_cases h : poolChk p = 0
  · rw [if_pos h]
    have h1 := baseOk_bounds h
    have h2 := pool_few h
    omega
  · rw [if_neg h]; omega
theorem needB_bounds {b : Int} (h : 0 ≤ b ∧ b ≤ 131072) : 0 ≤ needB b ∧ needB b ≤ 132000 := by
  unfold needB; split <;> omega
theorem needN_bounds (p : Pool) : 0 ≤ needN p ∧ needN p ≤ 132000 := needB_bounds (baseN_bounds p)
/-- Need is the least number that has room. -/
theorem need_least {b n : Int} (h : 1 ≤ b) (hn : b + 2 ≤ n) : b + 2 + bitsN n ≤ n ↔ needB b ≤ n := by
  unfold bitsN needB
  rw [if_neg (by omega), if_neg (by omega)]
  omega
theorem bitsN_pred {b : Int} (h : 1 ≤ b) : b + 2 + bitsN (needB b - 1) > needB b - 1 := by
  have h1 : b + 2 ≤ needB b - 1 := by unfold needB; rw [if_neg (by omega)]; omega
  have := need_least h h1
  omega
theorem need_room {b : Int} (h : 1 ≤ b) : b + 2 + bitsN (needB b) ≤ needB b := by
  have h1 : b + 2 ≤ needB b := by unfold needB; rw [if_neg (by omega)]; omega
  exact (need_least h h1).2 (Int.le_refl _)
theorem needB_mono {a b : Int} (h0 : 0 ≤ a) (h : a ≤ b) : needB a ≤ needB b := by
  unfold needB; split <;> split <;> omega
def fitsB (p : Pool) (n : Int) : Bool := decide (0 < needN p ∧ needN p ≤ n ∧ n ≤ 14400)
theorem fitsB_yes {p : Pool} {n : Int} (h0 : 0 < needN p) (h1 : needN p ≤ n) (h2 : n ≤ 14400) : fitsB p n = true := by simp [fitsB, h0, h1, h2]
theorem fitsB_no {p : Pool} {n : Int} (h : ¬ (0 < needN p ∧ needN p ≤ n ∧ n ≤ 14400)) : fitsB p n = false := by simp only [fitsB, decide_eq_false_iff_not]; exact h
theorem need_zero (p : Pool) : needN p = 0 ↔ poolChk p ≠ 0 := by
  unfold needN baseN
  by_cases h : poolChk p = 0
  · rw [if_pos h]
    have := (baseOk_bounds h).1
    unfold needB
    rw [if_neg (by omega)]
    constructor
    · intro h2; omega
    · intro h2; exact absurd h h2
  · rw [if_neg h]
    simp [needB, h]
end Go.Proofs.Ytooffkhdanimbaa
