/- How many nodes a packed tree has, as plain Lean. No condition: no program is in sight here. -/
import Derived.Test.YtooffkhdanimbaaInts
namespace Go.Proofs.Ytooffkhdanimbaa
open Go.RowKit

/-- How many keys a node of a tree has at most. -/
def maxN (t : Int) (leaf : Bool) : Int := if leaf = false then 18 else if t = 2 then 12 else if t = 3 then 6 else if t = 4 then 9 else 18
def widthN (t : Int) (leaf : Bool) : Int := if leaf = false then 4 else if t = 2 then 8 else if t = 3 then 24 else if t = 4 then 16 else 4
/-- How many parts of a size there are; one of nothing. -/
def overN (n s : Int) : Int := max 1 ((n + s - 1) / s)
theorem overN_pos (n s : Int) : 1 ≤ overN n s := by unfold overN; omega
theorem overN_small {n s : Int} (hs : 0 < s) (h : n ≤ s) : overN n s = 1 := by
  unfold overN
  have : (n + s - 1) / s ≤ 1 := by
    have := Int.ediv_lt_of_lt_mul hs (show n + s - 1 < 2 * s by omega)
    omega
  omega
theorem overN_more {n s : Int} (hs : 0 < s) (h : s < n) : overN n s = overN (n - s) s + 1 := by
  unfold overN
  have h1 : (n + s - 1) / s = (n - s + s - 1) / s + 1 := by
    rw [show n + s - 1 = (n - s + s - 1) + 1 * s by omega, Int.add_mul_ediv_right _ _ (by omega)]
  have h2 : 1 ≤ (n - s + s - 1) / s := by
    apply (Int.le_ediv_iff_mul_le hs).2
    omega
  omega
theorem overN_lt {n : Int} (h : 1 < n) : overN n 18 < n := by
  unfold overN
  omega
theorem overN_le {n s : Int} (h0 : 0 ≤ n) (hs : 1 ≤ s) : overN n s ≤ n + 1 := by
  unfold overN
  have h1 : (n + s - 1) / s ≤ n + 1 := by
    apply Int.le_of_lt_add_one
    apply Int.ediv_lt_of_lt_mul (by omega)
    have : n * 1 ≤ n * s := Int.mul_le_mul_of_nonneg_left hs h0
    rw [Int.add_mul, Int.add_mul]
    omega
  omega
/-- The levels above a level of k nodes, that level first; the nodes of a tree of n entries. -/
def levelsUp (k : Int) : List Int := if _h : 1 < k then k :: levelsUp (overN k 18) else [k]
termination_by k.toNat
decreasing_by
  have := overN_lt _h
  have := overN_pos k 18
  omega
theorem levelsUp_more {k : Int} (h : 1 < k) : levelsUp k = k :: levelsUp (overN k 18) := by rw [levelsUp, dif_pos h]
theorem levelsUp_one {k : Int} (h : ¬ 1 < k) : levelsUp k = [k] := by rw [levelsUp, dif_neg h]
def levelsN (t n : Int) : List Int := levelsUp (overN n (maxN t true))
def sumL : List Int → Int
  | [] => 0
  | x :: l => x + sumL l
theorem sumL_append (l r : List Int) : sumL (l ++ r) = sumL l + sumL r := by
  induction l with
  | nil => simp [sumL]
  | cons x l ih => simp only [List.cons_append, sumL, ih]; omega
theorem sumL_take (l : List Int) (k : Nat) (h : k < l.length) : sumL (l.take (k + 1)) = sumL (l.take k) + nth 0 l k := by
  rw [take_nth 0 l k h, sumL_append]; simp [sumL]
def nodesN (t n : Int) : Int := sumL (levelsN t n)
end Go.Proofs.Ytooffkhdanimbaa
