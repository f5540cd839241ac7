/- Parts of two lists of mappings, as plain Lean: what delta.Maps and its reference return. No condition: no program is in sight here. -/
import Derived.Test.YtecnkeakmedgnaaMap
namespace Go.Proofs.Ytecnkeakmedgnaa
open Go.RowKit

structure Pt where
  k : Int
  v : Int
  n : Int
def pt0 : Pt := ⟨0, 0, 0⟩
def Pt.enc (p : Pt) : List Value := [.int .i64 p.k, .int .i64 p.v, .int .i64 p.n]
theorem Pt.enc_len (p : Pt) : p.enc.length = 3 := rfl
theorem Pt.enc_one (p : Pt) : ∀ u ∈ p.enc, u.oneCell' = true := by
  intro u hu; simp [Pt.enc] at hu; rcases hu with rfl | rfl | rfl <;> rfl
abbrev RPt : Rel Pt := Flat Pt.enc
abbrev IsParts (w : World) (S : Nat → Prop) (v : Value) (l : List Pt) : Prop := IsSl RPt 3 pt0 w S v l
theorem rpt_stable : Stable RPt := flat_stable _
theorem parts_cells {w : World} {S : Nat → Prop} {A : Option Addr} {l : List Pt} (h : RowOf RPt 3 pt0 w S A l) (hl : 0 < l.length) :
    ∃ b off, A = some ⟨b, off, none⟩ ∧ S b ∧ ∀ k, k < l.length → w.cell? ⟨b, off + k * 3, none⟩ = some (.int .i64 (nth pt0 l k).k) ∧ w.cell? ⟨b, off + k * 3 + 1, none⟩ = some (.int .i64 (nth pt0 l k).v) ∧ w.cell? ⟨b, off + k * 3 + 2, none⟩ = some (.int .i64 (nth pt0 l k).n) :=
  flat3 h hl

/-- One virtual block more, of a kind. -/
def addP (l : List Pt) (kd x : Int) : List Pt :=
  match l.getLast? with
  | some p => if p.k = kd ∧ p.v + p.n = x then l.dropLast ++ [⟨p.k, p.v, p.n + 1⟩] else l ++ [⟨kd, x, 1⟩]
  | none => [⟨kd, x, 1⟩]
theorem addP_nil (kd x : Int) : addP [] kd x = [⟨kd, x, 1⟩] := rfl
theorem addP_hit (i : List Pt) (p : Pt) (kd x : Int) (h1 : p.k = kd) (h2 : p.v + p.n = x) : addP (i ++ [p]) kd x = i ++ [⟨p.k, p.v, p.n + 1⟩] := by
  simp [addP, h1, h2]
theorem addP_miss (i : List Pt) (p : Pt) (kd x : Int) (h : ¬ (p.k = kd ∧ p.v + p.n = x)) : addP (i ++ [p]) kd x = (i ++ [p]) ++ [⟨kd, x, 1⟩] := by
  simp only [addP, List.getLast?_append, List.getLast?_singleton, Option.some_or]
  rw [if_neg h]
/-- The parts' numbers are small: the starting points below 2^49, the lengths at most c. -/
def Small (c : Nat) (l : List Pt) : Prop := ∀ p ∈ l, 0 ≤ p.v ∧ p.v ≤ 281474976710655 ∧ 1 ≤ p.n ∧ p.n ≤ c
theorem Small.nil_ (c : Nat) : Small c [] := fun p h => by cases h
theorem Small.mono {c c' : Nat} {l : List Pt} (h : Small c l) (hc : c ≤ c') : Small c' l := fun p hp => by have := h p hp; exact ⟨this.1, this.2.1, this.2.2.1, by omega⟩
theorem Small.addP_ {c : Nat} {l : List Pt} (h : Small c l) (kd x : Int) (h0 : 0 ≤ x) (h1 : x ≤ 281474976710655) : Small (c + 1) (addP l kd x) := by
  rcases List.eq_nil_or_concat l with rfl | ⟨i, p, rfl⟩
  · intro q hq; rw [addP_nil] at hq; simp at hq; subst hq; exact ⟨h0, h1, by simp, by simp; omega⟩
  · have hp := h p (by simp)
    by_cases hc : p.k = kd ∧ p.v + p.n = x
    · rw [List.concat_eq_append, addP_hit i p kd x hc.1 hc.2]
      intro q hq
      rcases List.mem_append.1 hq with hq | hq
      · have := h q (by simp [hq]); exact ⟨this.1, this.2.1, this.2.2.1, by omega⟩
      · simp at hq; subst hq; exact ⟨hp.1, hp.2.1, by simp; omega, by simp; omega⟩
    · rw [List.concat_eq_append, addP_miss i p kd x hc]
      intro q hq
      rcases List.mem_append.1 hq with hq | hq
      · have := h q (by simpa using hq); exact ⟨this.1, this.2.1, this.2.2.1, by omega⟩
      · simp at hq; subst hq; exact ⟨h0, h1, by simp, by simp; omega⟩
theorem addP_length (l : List Pt) (kd x : Int) : (addP l kd x).length ≤ l.length + 1 := by
  rcases List.eq_nil_or_concat l with rfl | ⟨i, p, rfl⟩
  · simp [addP_nil]
  · by_cases hc : p.k = kd ∧ p.v + p.n = x
    · rw [List.concat_eq_append, addP_hit i p kd x hc.1 hc.2]; simp
    · rw [List.concat_eq_append, addP_miss i p kd x hc]; simp
theorem flats_set (i : List Pt) (p : Pt) (n' : Int) : (flats Pt.enc (i ++ [p])).set (i.length * 3 + 2) (.int .i64 n') = flats Pt.enc (i ++ [⟨p.k, p.v, n'⟩]) := by
  rw [flats_append, flats_append, flats_one, flats_one]
  rw [List.set_append_right _ _ (by rw [flats_length Pt.enc_len]; omega), flats_length Pt.enc_len, show i.length * 3 + 2 - i.length * 3 = 2 from by omega]
  rfl

/-- What stands at each key, in order. -/
def keys : List Mp → List Mp → List (Int × Int)
  | [], b => b.map fun y => (4, y.v)
  | x :: a, [] => (x :: a).map fun x => (3, x.v)
  | x :: a, y :: b =>
    if x.v < y.v then (3, x.v) :: keys a (y :: b)
    else if y.v < x.v then (4, y.v) :: keys (x :: a) b
    else (if x.b = y.b then 1 else 2, x.v) :: keys a b
  termination_by a b => a.length + b.length
def glue (out : List Pt) (ks : List (Int × Int)) : List Pt := ks.foldl (fun l q => addP l q.1 q.2) out
def partsOf (a b : List Mp) : List Pt := glue [] (keys a b)
theorem glue_cons (out : List Pt) (k x : Int) (ks : List (Int × Int)) : glue out ((k, x) :: ks) = glue (addP out k x) ks := rfl
theorem keys_nil_left (b : List Mp) : keys [] b = b.map fun y => (4, y.v) := by rw [keys]
theorem keys_nil_right (a : List Mp) : keys a [] = a.map fun x => (3, x.v) := by
  cases a with
  | nil => rw [keys]; rfl
  | cons x a => rw [keys]
theorem keys_lt (x y : Mp) (a b : List Mp) (h : x.v < y.v) : keys (x :: a) (y :: b) = (3, x.v) :: keys a (y :: b) := by rw [keys, if_pos h]
theorem keys_gt (x y : Mp) (a b : List Mp) (h : y.v < x.v) : keys (x :: a) (y :: b) = (4, y.v) :: keys (x :: a) b := by rw [keys, if_neg (by omega), if_pos h]
theorem keys_eq (x y : Mp) (a b : List Mp) (h : x.v = y.v) : keys (x :: a) (y :: b) = (if x.b = y.b then 1 else 2, x.v) :: keys a b := by rw [keys, if_neg (by omega), if_neg (by omega)]
theorem keys_left (x : Mp) (a b : List Mp) (h : b = [] ∨ ∃ y r, b = y :: r ∧ x.v < y.v) : keys (x :: a) b = (3, x.v) :: keys a b := by
  rcases h with rfl | ⟨y, r, rfl, h⟩
  · rw [keys_nil_right, keys_nil_right]; rfl
  · exact keys_lt x y a r h
theorem keys_right (y : Mp) (a b : List Mp) (h : a = [] ∨ ∃ x r, a = x :: r ∧ y.v < x.v) : keys a (y :: b) = (4, y.v) :: keys a b := by
  rcases h with rfl | ⟨x, r, rfl, h⟩
  · rw [keys_nil_left, keys_nil_left]; rfl
  · exact keys_gt x y r b h
/-- The state of the merge: i, k have been taken from the lists, 'out' is there. -/
def MgAt (a b : List Mp) (i k : Nat) (out : List Pt) : Prop := glue out (keys (a.drop i) (b.drop k)) = partsOf a b
section
variable {a b : List Mp} {i k : Nat} {out : List Pt}
theorem MgAt.zero (a b : List Mp) : MgAt a b 0 0 [] := rfl
theorem MgAt.done (h : MgAt a b i k out) (hi : a.length ≤ i) (hk : b.length ≤ k) : out = partsOf a b := by
  unfold MgAt at h; rw [← h, List.drop_eq_nil_of_le hi, List.drop_eq_nil_of_le hk, keys_nil_left]; rfl
theorem MgAt.left (h : MgAt a b i k out) (hi : i < a.length) (hk : b.length ≤ k ∨ k < b.length ∧ (nth mp0 a i).v < (nth mp0 b k).v) : MgAt a b (i + 1) k (addP out 3 (nth mp0 a i).v) := by
  unfold MgAt at h ⊢
  rw [drop_nth mp0 a i hi, keys_left _ _ _ (by
    rcases hk with hk | ⟨hk, hv⟩
    · exact .inl (List.drop_eq_nil_of_le hk)
    · exact .inr ⟨_, _, drop_nth mp0 b k hk, hv⟩), glue_cons] at h
  exact h
theorem MgAt.right (h : MgAt a b i k out) (hk : k < b.length) (hi : a.length ≤ i ∨ i < a.length ∧ (nth mp0 b k).v < (nth mp0 a i).v) : MgAt a b i (k + 1) (addP out 4 (nth mp0 b k).v) := by
  unfold MgAt at h ⊢
  rw [drop_nth mp0 b k hk, keys_right _ _ _ (by
    rcases hi with hi | ⟨hi, hv⟩
    · exact .inl (List.drop_eq_nil_of_le hi)
    · exact .inr ⟨_, _, drop_nth mp0 a i hi, hv⟩), glue_cons] at h
  exact h
theorem MgAt.both (h : MgAt a b i k out) (hi : i < a.length) (hk : k < b.length) (hv : (nth mp0 a i).v = (nth mp0 b k).v) {kd : Int} (hd : kd = if (nth mp0 a i).b = (nth mp0 b k).b then 1 else 2) :
    MgAt a b (i + 1) (k + 1) (addP out kd (nth mp0 a i).v) := by
  unfold MgAt at h ⊢
  rw [drop_nth mp0 a i hi, drop_nth mp0 b k hk, keys_eq _ _ _ _ hv, glue_cons, ← hd] at h
  exact h
end
/-- All virtual blocks are within their bounds. -/
def VOk (l : List Mp) : Prop := ∀ m ∈ l, 0 ≤ m.v ∧ m.v ≤ 281474976710655
theorem VOk.head {x : Mp} {l : List Mp} (h : VOk (x :: l)) : 0 ≤ x.v ∧ x.v ≤ 281474976710655 := h x (by simp)
theorem VOk.tail {x : Mp} {l : List Mp} (h : VOk (x :: l)) : VOk l := fun m hm => h m (by simp [hm])
theorem VOk.at_ {l : List Mp} (h : VOk l) {k : Nat} (hk : k < l.length) : 0 ≤ (nth mp0 l k).v ∧ (nth mp0 l k).v ≤ 281474976710655 := h _ (nth_mem mp0 l k hk)
theorem chkFrom_vok (last : Int) (l : List Mp) (h : chkFrom last l = 0) : VOk l := by
  induction l generalizing last with
  | nil => intro m hm; cases hm
  | cons x l ih =>
    simp only [chkFrom] at h
    by_cases h1 : x.v < 0 ∨ 281474976710655 < x.v
    · rw [if_pos h1] at h; cases h
    · rw [if_neg h1] at h
      by_cases h2 : x.v ≤ last
      · rw [if_pos h2] at h; cases h
      · rw [if_neg h2] at h
        intro m hm
        rcases List.mem_cons.1 hm with rfl | hm
        · omega
        · exact ih _ h m hm
theorem chk_vok {l : List Mp} (h : chk l = 0) : VOk l := chkFrom_vok _ _ h
end Go.Proofs.Ytecnkeakmedgnaa
