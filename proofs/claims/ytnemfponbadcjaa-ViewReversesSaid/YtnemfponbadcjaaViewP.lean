/- What view tells of a pool's counts, as plain Lean. No condition: no program is in sight here. -/
import Derived.Test.YtnemfponbadcjaaWPoolRefs
namespace Go.Proofs.Ytnemfponbadcjaa
open Go.RowKit

/-- How many numbers are greater. -/
def cntG (t : Int) : List Int → Int
  | [] => 0
  | x :: l => (if x > t then 1 else 0) + cntG t l
theorem cntG_append (t : Int) (l r : List Int) : cntG t (l ++ r) = cntG t l + cntG t r := by
  induction l with
  | nil => simp [cntG]
  | cons x l ih => simp only [List.cons_append, cntG, ih]; omega
theorem cntG_take (t : Int) (l : List Int) (k : Nat) (h : k < l.length) : cntG t (l.take (k + 1)) = cntG t (l.take k) + if nth 0 l k > t then 1 else 0 := by
  rw [take_nth 0 l k h, cntG_append]; simp [cntG]
theorem cntG_bound (t : Int) : ∀ l : List Int, 0 ≤ cntG t l ∧ cntG t l ≤ l.length := by
  intro l
  induction l with
  | nil => simp [cntG]
  | cons x l ih =>
    simp only [cntG, List.length_cons]
    split <;> omega
/-- A free span grows, or a new one begins. -/
structure Sp where
  lo : Int
  hi : Int
def sp0 : Sp := ⟨0, 0⟩
def Sp.enc (s : Sp) : List Value := [.int .i64 s.lo, .int .i64 s.hi]
theorem Sp.enc_len (m : Sp) : m.enc.length = 2 := rfl
def lastHi (out : List Sp) : Int := (nth sp0 out (out.length - 1)).hi
def frAdd (out : List Sp) (b : Int) : List Sp := if 0 < out.length ∧ lastHi out = b then out.set (out.length - 1) ⟨(nth sp0 out (out.length - 1)).lo, b + 1⟩ else out ++ [⟨b, b + 1⟩]
def frFrom (out : List Sp) (b : Int) : List Int → List Sp
  | [] => out
  | n :: l => frFrom (if n > 0 then out else frAdd out b) (b + 1) l
def frOf (l : List Int) : List Sp := frFrom [] 0 l
theorem frFrom_append : ∀ (l r : List Int) (out : List Sp) (b : Int), frFrom out b (l ++ r) = frFrom (frFrom out b l) (b + l.length) r := by
  intro l
  induction l with
  | nil => intro r out b; simp [frFrom]
  | cons x l ih =>
    intro r out b
    simp only [List.cons_append, frFrom, ih, List.length_cons]
    congr 1
    omega
theorem frOf_take (l : List Int) (k : Nat) (h : k < l.length) : frOf (l.take (k + 1)) = if nth 0 l k > 0 then frOf (l.take k) else frAdd (frOf (l.take k)) k := by
  unfold frOf
  rw [take_nth 0 l k h, frFrom_append]
  simp only [frFrom, List.length_take]
  rw [Nat.min_eq_left (by omega)]
  simp
theorem frAdd_length (out : List Sp) (b : Int) : (frAdd out b).length ≤ out.length + 1 := by
  unfold frAdd
  split <;> simp
theorem frOf_length (l : List Int) : ∀ k, k ≤ l.length → (frOf (l.take k)).length ≤ k := by
  intro k
  induction k with
  | zero => intro _; simp [frOf, frFrom]
  | succ k ih =>
    intro hk
    rw [frOf_take l k (by omega)]
    have h1 := ih (by omega)
    have h2 := frAdd_length (frOf (l.take k)) k
    split <;> omega
theorem lastHi_append (out : List Sp) (s : Sp) : lastHi (out ++ [s]) = s.hi := by
  unfold lastHi
  simp only [List.length_append, List.length_singleton, Nat.add_sub_cancel]
  rw [nth_append_len]
theorem lastHi_add (out : List Sp) (b : Int) : lastHi (frAdd out b) = b + 1 := by
  unfold frAdd
  split
  · rename_i h
    unfold lastHi
    rw [List.length_set, nth_get sp0 _ _ (by simp; omega)]
    simp
  · exact lastHi_append _ _
theorem frOf_hi (l : List Int) : ∀ k, k ≤ l.length → (frOf (l.take k)).length = 0 ∨ lastHi (frOf (l.take k)) ≤ k := by
  intro k
  induction k with
  | zero => intro _; exact .inl (by simp [frOf, frFrom])
  | succ k ih =>
    intro hk
    rw [frOf_take l k (by omega)]
    split
    · rcases ih (by omega) with h | h
      · exact .inl h
      · exact .inr (by omega)
    · right; rw [lastHi_add]; omega
theorem frAdd_new {out : List Sp} {b : Int} (h : out.length = 0 ∨ lastHi out ≠ b) : frAdd out b = out ++ [⟨b, b + 1⟩] := by
  unfold frAdd
  rw [if_neg]
  rintro ⟨h1, h2⟩
  rcases h with h | h
  · omega
  · exact h h2
theorem frAdd_more (out : List Sp) (a b : Int) : frAdd (out ++ [⟨a, b⟩]) b = out ++ [⟨a, b + 1⟩] := by
  unfold frAdd
  rw [if_pos ⟨by simp, lastHi_append _ _⟩]
  simp only [List.length_append, List.length_singleton, Nat.add_sub_cancel]
  rw [nth_append_len]
  simp
end Go.Proofs.Ytnemfponbadcjaa
