/- Runs of mappings, as plain Lean. No condition: no program is in sight here. -/
import Derived.Test.YtnemfponbadcjaaMap
namespace Go.Proofs.Ytnemfponbadcjaa
open Go.RowKit

structure Rn where
  v : Int
  b : Int
  n : Int
  t : Int
def rn0 : Rn := ⟨0, 0, 0, 0⟩
def Rn.enc (m : Rn) : List Value := [.int .i64 m.v, .int .i64 m.b, .int .i64 m.n, .int .i64 m.t]
theorem Rn.enc_len (m : Rn) : m.enc.length = 4 := rfl
theorem Rn.enc_one (m : Rn) : ∀ u ∈ m.enc, u.oneCell' = true := by
  intro u hu; simp [Rn.enc] at hu; rcases hu with rfl | rfl | rfl | rfl <;> rfl
abbrev RRn : Rel Rn := Flat Rn.enc
theorem rrn_stable : Stable RRn := flat_stable _
/-- A run stands just behind another one. -/
def folB (p x : Rn) : Bool := decide (p.v + p.n = x.v) && (decide (p.b + p.n = x.b) && decide (p.t = x.t))
def addR (l : List Rn) (x : Rn) : List Rn :=
  match l.getLast? with
  | none => [x]
  | some p => if folB p x = true then l.dropLast ++ [⟨p.v, p.b, p.n + x.n, p.t⟩] else l ++ [x]
theorem addR_nil (x : Rn) : addR [] x = [x] := rfl
theorem addR_hit (i : List Rn) (p x : Rn) (h : folB p x = true) : addR (i ++ [p]) x = i ++ [⟨p.v, p.b, p.n + x.n, p.t⟩] := by
  unfold addR; simp [h]
theorem addR_miss (i : List Rn) (p x : Rn) (h : folB p x = false) : addR (i ++ [p]) x = (i ++ [p]) ++ [x] := by
  unfold addR; simp [h]
def oneR (m : Mp) : Rn := ⟨m.v, m.b, 1, m.t⟩
def runsOf (l : List Mp) : List Rn := l.foldl (fun o m => addR o (oneR m)) []
theorem runsOf_take (l : List Mp) (k : Nat) (h : k < l.length) : runsOf (l.take (k + 1)) = addR (runsOf (l.take k)) (oneR (nth mp0 l k)) := by
  rw [take_nth mp0 l k h]; simp [runsOf]
/-- The numbers of a run are small. -/
def RnS (c : Nat) (r : Rn) : Prop := -4611686018427387904 ≤ r.v ∧ r.v ≤ 4611686018427387904 ∧ -4611686018427387904 ≤ r.b ∧ r.b ≤ 4611686018427387904 ∧ 0 ≤ r.n ∧ r.n ≤ c
theorem addR_length (l : List Rn) (x : Rn) : (addR l x).length ≤ l.length + 1 := by
  rcases List.eq_nil_or_concat l with rfl | ⟨i, p, rfl⟩
  · simp [addR_nil]
  · rw [List.concat_eq_append]
    cases h : folB p x with
    | true => rw [addR_hit i p x h]; simp
    | false => rw [addR_miss i p x h]; simp
theorem addR_small {c : Nat} {l : List Rn} {x : Rn} (hl : ∀ r ∈ l, RnS c r) (hx : RnS 1 x) : ∀ r ∈ addR l x, RnS (c + 1) r := by
  have hup : ∀ {d e : Nat} {r : Rn}, RnS d r → d ≤ e → RnS e r := fun h he => ⟨h.1, h.2.1, h.2.2.1, h.2.2.2.1, h.2.2.2.2.1, by have := h.2.2.2.2.2; omega⟩
  rcases List.eq_nil_or_concat l with rfl | ⟨i, p, rfl⟩
  · intro r hr
    rw [addR_nil, List.mem_singleton] at hr
    subst hr
    exact hup hx (by omega)
  · rw [List.concat_eq_append] at hl ⊢
    intro r hr
    cases h : folB p x with
    | true =>
      rw [addR_hit i p x h, List.mem_append, List.mem_singleton] at hr
      rcases hr with hr | rfl
      · exact hup (hl r (by simp [hr])) (by omega)
      · have hp := hl p (by simp)
        exact ⟨hp.1, hp.2.1, hp.2.2.1, hp.2.2.2.1, by have := hp.2.2.2.2.1; have := hx.2.2.2.2.1; show 0 ≤ p.n + x.n; omega, by have := hp.2.2.2.2.2; have := hx.2.2.2.2.2; show p.n + x.n ≤ _; omega⟩
    | false =>
      rw [addR_miss i p x h, List.mem_append, List.mem_singleton] at hr
      rcases hr with hr | rfl
      · exact hup (hl r hr) (by omega)
      · exact hup hx (by omega)
theorem runsOf_small {l : List Mp} (h : ∀ m ∈ l, -4611686018427387904 ≤ m.v ∧ m.v ≤ 4611686018427387904 ∧ -4611686018427387904 ≤ m.b ∧ m.b ≤ 4611686018427387904) : ∀ k, k ≤ l.length → (∀ r ∈ runsOf (l.take k), RnS k r) ∧ (runsOf (l.take k)).length ≤ k := by
  intro k
  induction k with
  | zero => intro _; simp [runsOf]
  | succ k ih =>
    intro hk
    obtain ⟨h1, h2⟩ := ih (by omega)
    rw [runsOf_take l k (by omega)]
    have hm := h (nth mp0 l k) (nth_mem mp0 l k (by omega))
    exact ⟨addR_small h1 ⟨hm.1, hm.2.1, hm.2.2.1, hm.2.2.2, by simp [oneR], by simp [oneR]⟩, by have := addR_length (runsOf (l.take k)) (oneR (nth mp0 l k)); omega⟩
theorem flats_setN (i : List Rn) (p : Rn) (n' : Int) : (flats Rn.enc (i ++ [p])).set (i.length * 4 + 2) (.int .i64 n') = flats Rn.enc (i ++ [⟨p.v, p.b, n', p.t⟩]) := by
  rw [flats_append, flats_append, flats_one, flats_one]
  rw [List.set_append_right _ _ (by rw [flats_length Rn.enc_len]; omega), flats_length Rn.enc_len, show i.length * 4 + 2 - i.length * 4 = 2 from by omega]
  rfl
end Go.Proofs.Ytnemfponbadcjaa
