/- What maps data blocks, as plain Lean: runs cut, and mapping by mapping. No condition: no program is in sight here. -/
import Derived.Test.YtnemfponbadcjaaRunP
import Derived.Test.YtnemfponbadcjaaPoolF
namespace Go.Proofs.Ytnemfponbadcjaa
open Go.RowKit

structure Bk where
  b : Int
  n : Int
  id : Int
  v : Int
def bk0 : Bk := ⟨0, 0, 0, 0⟩
def Bk.enc (m : Bk) : List Value := [.int .i64 m.b, .int .i64 m.n, .int .i64 m.id, .int .i64 m.v]
theorem Bk.enc_len (m : Bk) : m.enc.length = 4 := rfl
theorem Bk.enc_one (m : Bk) : ∀ u ∈ m.enc, u.oneCell' = true := by
  intro u hu; simp [Bk.enc] at hu; rcases hu with rfl | rfl | rfl | rfl <;> rfl
/-- The part of a run whose data blocks are between f and t. -/
def cutN (f t : Int) (r : Rn) : Rn := ⟨r.v + max r.b f - r.b, max r.b f, min (r.b + r.n) t - max r.b f, r.t⟩
def cutB (f t : Int) (r : Rn) : Bool := decide (max r.b f < min (r.b + r.n) t)
def bkOf (id f t : Int) (r : Rn) : List Bk := if cutB f t r = true then [⟨(cutN f t r).b, (cutN f t r).n, id, (cutN f t r).v⟩] else []
def rawDev (f t : Int) (d : Dev) : List Bk := (runsOf d.maps).flatMap (bkOf d.id f t)
def rawP (f t : Int) (p : Pool) : List Bk := p.devs.flatMap (rawDev f t)
/-- Mapping by mapping. -/
def inR (f t : Int) (m : Mp) : Bool := decide (f ≤ m.b) && decide (m.b < t)
def nextTo (q m : Mp) : Bool := decide (m.v = q.v + 1) && (decide (m.b = q.b + 1) && decide (m.t = q.t))
def bumpB (o : List Bk) : List Bk := match o.getLast? with | none => [] | some x => o.dropLast ++ [⟨x.b, x.n + 1, x.id, x.v⟩]
theorem bumpB_snoc (o : List Bk) (x : Bk) : bumpB (o ++ [x]) = o ++ [⟨x.b, x.n + 1, x.id, x.v⟩] := by unfold bumpB; simp
def stepB (id f t : Int) (l : List Mp) (k : Nat) (o : List Bk) : List Bk :=
  if inR f t (nth mp0 l k) = true then (if 0 < k ∧ inR f t (nth mp0 l (k - 1)) = true ∧ nextTo (nth mp0 l (k - 1)) (nth mp0 l k) = true then bumpB o else o ++ [⟨(nth mp0 l k).b, 1, id, (nth mp0 l k).v⟩]) else o
def outB (id f t : Int) (l : List Mp) (o : List Bk) : Nat → List Bk
  | 0 => o
  | k + 1 => stepB id f t l k (outB id f t l o k)
theorem runs_last (l : List Mp) : ∀ k, 0 < k → k ≤ l.length → ∃ i p, runsOf (l.take k) = i ++ [p] ∧ p.v + p.n = (nth mp0 l (k - 1)).v + 1 ∧ p.b + p.n = (nth mp0 l (k - 1)).b + 1 ∧ p.t = (nth mp0 l (k - 1)).t ∧ 1 ≤ p.n := by
  intro k
  induction k with
  | zero => intro h; omega
  | succ k ih =>
    intro _ hk
    rw [runsOf_take l k (by omega), Nat.add_sub_cancel]
    rcases Nat.eq_zero_or_pos k with h0 | h0
    · subst h0
      exact ⟨[], oneR (nth mp0 l 0), rfl, rfl, rfl, rfl, by simp [oneR]⟩
    · obtain ⟨i, p, e, h1, h2, h3, h4⟩ := ih h0 (by omega)
      rw [e]
      cases hf : folB p (oneR (nth mp0 l k)) with
      | true =>
        rw [addR_hit i p _ hf]
        unfold folB oneR at hf
        simp only [Bool.and_eq_true, decide_eq_true_eq] at hf
        exact ⟨i, _, rfl, by show p.v + (p.n + 1) = _; omega, by show p.b + (p.n + 1) = _; omega, by show p.t = _; exact hf.2.2, by show 1 ≤ p.n + 1; omega⟩
      | false =>
        rw [addR_miss i p _ hf]
        exact ⟨i ++ [p], oneR (nth mp0 l k), rfl, rfl, rfl, rfl, by simp [oneR]⟩
theorem flat_snoc (id f t : Int) (i : List Rn) (p : Rn) : (i ++ [p]).flatMap (bkOf id f t) = i.flatMap (bkOf id f t) ++ bkOf id f t p := by simp
theorem bkOf_one (id f t : Int) (m : Mp) : bkOf id f t (oneR m) = if inR f t m = true then [⟨m.b, 1, id, m.v⟩] else [] := by
  unfold bkOf cutB cutN oneR inR
  by_cases h : f ≤ m.b ∧ m.b < t
  · have e1 : max m.b f = m.b := by omega
    have e2 : min (m.b + 1) t = m.b + 1 := by omega
    simp only [e1, e2]
    rw [if_pos (by simp; omega), if_pos (by simp [h])]
    congr 1
    simp only [Bk.mk.injEq, true_and]
    omega
  · rw [if_neg (by simp; omega), if_neg (by simp; omega)]
theorem outB_runs (id f t : Int) (l : List Mp) (o : List Bk) : ∀ k, k ≤ l.length → outB id f t l o k = o ++ (runsOf (l.take k)).flatMap (bkOf id f t) := by
  intro k
  induction k with
  | zero => intro _; simp [outB, runsOf]
  | succ k ih =>
    intro hk
    rw [outB, ih (by omega), runsOf_take l k (by omega)]
    rcases Nat.eq_zero_or_pos k with h0 | h0
    · subst h0
      have e : runsOf (l.take 0) = [] := rfl
      rw [e, addR_nil]
      unfold stepB
      rw [if_neg (c := 0 < 0 ∧ _) (by simp)]
      simp only [List.flatMap_nil, List.append_nil, List.flatMap_cons]
      rw [bkOf_one]
      split <;> simp
    · obtain ⟨i, p, e, h1, h2, h3, h4⟩ := runs_last l k h0 (by omega)
      rw [e]
      generalize hm : nth mp0 l k = m at *
      generalize hq : nth mp0 l (k - 1) = q at *
      cases hf : folB p (oneR m) with
      | false =>
        rw [addR_miss i p _ hf, flat_snoc id f t (i ++ [p]), bkOf_one]
        unfold stepB
        rw [hm, hq]
        have hn : nextTo q m = false := by
          unfold folB oneR at hf
          unfold nextTo
          simp only [Bool.and_eq_false_iff, decide_eq_false_iff_not] at hf ⊢
          rcases hf with h | h | h
          · exact .inl fun e => h (by omega)
          · exact .inr (.inl fun e => h (by omega))
          · exact .inr (.inr fun e => h (by omega))
        rw [hn]
        by_cases hr : inR f t m = true
        · rw [if_pos hr, if_pos hr, if_neg (by simp), List.append_assoc]
        · rw [if_neg hr, if_neg hr, List.append_nil]
      | true =>
        rw [addR_hit i p _ hf, flat_snoc, flat_snoc]
        unfold folB oneR at hf
        simp only [Bool.and_eq_true, decide_eq_true_eq] at hf
        obtain ⟨f1, f2, f3⟩ := hf
        unfold stepB
        rw [hm, hq]
        have hn : nextTo q m = true := by
          unfold nextTo
          simp only [Bool.and_eq_true, decide_eq_true_eq]
          exact ⟨by omega, by omega, by omega⟩
        rw [hn]
        have e0 : (oneR m).n = 1 := rfl
        rw [e0]
        by_cases hr : inR f t m = true
        · rw [if_pos hr]
          unfold inR at hr
          simp only [Bool.and_eq_true, decide_eq_true_eq] at hr
          by_cases hp : inR f t q = true
          · rw [if_pos ⟨h0, hp, rfl⟩]
            unfold inR at hp
            simp only [Bool.and_eq_true, decide_eq_true_eq] at hp
            have c1 : cutB f t p = true := by unfold cutB; simp; omega
            have c2 : cutB f t ⟨p.v, p.b, p.n + 1, p.t⟩ = true := by unfold cutB; simp; omega
            have e1 : bkOf id f t p = [⟨(cutN f t p).b, (cutN f t p).n, id, (cutN f t p).v⟩] := by unfold bkOf; rw [if_pos c1]
            have e2 : bkOf id f t ⟨p.v, p.b, p.n + 1, p.t⟩ = [⟨(cutN f t p).b, (cutN f t p).n + 1, id, (cutN f t p).v⟩] := by
              unfold bkOf
              rw [if_pos c2]
              congr 1
              unfold cutN
              simp only [Bk.mk.injEq, true_and, and_true]
              omega
            rw [e1, e2, ← List.append_assoc, bumpB_snoc, List.append_assoc]
          · rw [if_neg (fun h => hp h.2.1)]
            unfold inR at hp
            simp only [Bool.and_eq_true, decide_eq_true_eq] at hp
            have c1 : ¬ cutB f t p = true := by unfold cutB; simp; omega
            have c2 : cutB f t ⟨p.v, p.b, p.n + 1, p.t⟩ = true := by unfold cutB; simp; omega
            have e1 : bkOf id f t p = [] := by unfold bkOf; rw [if_neg c1]
            have e2 : bkOf id f t ⟨p.v, p.b, p.n + 1, p.t⟩ = [⟨m.b, 1, id, m.v⟩] := by
              unfold bkOf
              rw [if_pos c2]
              congr 1
              unfold cutN
              simp only [Bk.mk.injEq, true_and]
              omega
            rw [e1, e2, List.append_nil, List.append_assoc]
        · rw [if_neg hr]
          unfold inR at hr
          simp only [Bool.and_eq_true, decide_eq_true_eq] at hr
          congr 2
          unfold bkOf cutB cutN
          by_cases c : max p.b f < min (p.b + p.n) t
          · have c2 : max p.b f < min (p.b + (p.n + 1)) t := by omega
            have e3 : min (p.b + (p.n + 1)) t = min (p.b + p.n) t := by omega
            simp only [e3]
          · have c2 : ¬ max p.b f < min (p.b + (p.n + 1)) t := by omega
            rw [if_neg (by simpa using c), if_neg (by simpa using c2)]
/-- All of a device's mappings. -/
theorem outB_dev (f t : Int) (d : Dev) (o : List Bk) : outB d.id f t d.maps o d.maps.length = o ++ rawDev f t d := by
  rw [outB_runs _ _ _ _ _ _ (Nat.le_refl _), List.take_length]; rfl
end Go.Proofs.Ytnemfponbadcjaa
