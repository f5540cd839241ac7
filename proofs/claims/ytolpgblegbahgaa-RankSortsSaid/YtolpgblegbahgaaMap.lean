/- Mappings and how they are checked, as plain Lean: what delta.Check and its reference return. No condition: no program is in sight here. -/
import Derived.Test.YtolpgblegbahgaaBase
namespace Go.Proofs.Ytolpgblegbahgaa
open Go.RowKit

structure Mp where
  v : Int
  b : Int
  t : Int
def mp0 : Mp := ⟨0, 0, 0⟩
def Mp.enc (m : Mp) : List Value := [.int .i64 m.v, .int .i64 m.b, .int .i64 m.t]
theorem Mp.enc_len (m : Mp) : m.enc.length = 3 := rfl
theorem Mp.enc_one (m : Mp) : ∀ u ∈ m.enc, u.oneCell' = true := by
  intro u hu; simp [Mp.enc] at hu; rcases hu with rfl | rfl | rfl <;> rfl
/-- The numbers fit into Go's int. -/
def In64 (n : Int) : Prop := -9223372036854775808 ≤ n ∧ n ≤ 9223372036854775807
def Mp.ok (m : Mp) : Prop := In64 m.v ∧ In64 m.b ∧ In64 m.t
abbrev RMp : Rel Mp := Flat Mp.enc
/-- A slice of mappings; a row of mappings. -/
abbrev IsMaps (w : World) (S : Nat → Prop) (v : Value) (l : List Mp) : Prop := IsSl RMp 3 mp0 w S v l
abbrev MapRow (w : World) (S : Nat → Prop) (A : Option Addr) (l : List Mp) : Prop := RowOf RMp 3 mp0 w S A l
theorem rmp_stable : Stable RMp := flat_stable _
theorem flat3 {α : Type} {f0 f1 f2 : α → Value} {d : α} {w : World} {S : Nat → Prop} {A : Option Addr} {l : List α} (h : RowOf (Flat fun x => [f0 x, f1 x, f2 x]) 3 d w S A l) (hl : 0 < l.length) :
    ∃ b off, A = some ⟨b, off, none⟩ ∧ S b ∧ ∀ k, k < l.length → w.cell? ⟨b, off + k * 3, none⟩ = some (f0 (nth d l k)) ∧ w.cell? ⟨b, off + k * 3 + 1, none⟩ = some (f1 (nth d l k)) ∧ w.cell? ⟨b, off + k * 3 + 2, none⟩ = some (f2 (nth d l k)) := by
  obtain ⟨b, off, e, hb, hc⟩ := h hl
  refine ⟨b, off, e, hb, fun k hk => ?_⟩
  obtain ⟨cs, _, hr, h3⟩ := hc k hk
  obtain rfl : cs = _ := hr
  exact ⟨h3 0 _ rfl, h3 1 _ rfl, h3 2 _ rfl⟩
theorem maps_cells {w : World} {S : Nat → Prop} {A : Option Addr} {l : List Mp} (h : MapRow w S A l) (hl : 0 < l.length) :
    ∃ b off, A = some ⟨b, off, none⟩ ∧ S b ∧ ∀ k, k < l.length → w.cell? ⟨b, off + k * 3, none⟩ = some (.int .i64 (nth mp0 l k).v) ∧ w.cell? ⟨b, off + k * 3 + 1, none⟩ = some (.int .i64 (nth mp0 l k).b) ∧ w.cell? ⟨b, off + k * 3 + 2, none⟩ = some (.int .i64 (nth mp0 l k).t) :=
  flat3 h hl

/-- The first of a row of mappings, and the row behind it. -/
theorem maps_head {w : World} {S : Nat → Prop} {A : Option Addr} {x : Mp} {l : List Mp} (h : MapRow w S A (x :: l)) :
    ∃ b off, A = some ⟨b, off, none⟩ ∧ S b ∧ w.cell? ⟨b, off, none⟩ = some (.int .i64 x.v) ∧ w.cell? ⟨b, off + 1, none⟩ = some (.int .i64 x.b) ∧ w.cell? ⟨b, off + 2, none⟩ = some (.int .i64 x.t) := by
  obtain ⟨b, off, e, hb, hc⟩ := maps_cells h (by simp)
  have := hc 0 (by simp)
  rw [nth_cons_zero, Nat.zero_mul, Nat.add_zero] at this
  exact ⟨b, off, e, hb, this⟩
theorem maps_tail {w : World} {S : Nat → Prop} {b off : Nat} {x : Mp} {l : List Mp} {c : Nat} (h : MapRow w S (some ⟨b, off, none⟩) (x :: l)) (hc : l.length + 1 ≤ c) :
    MapRow w S (if c = 1 then some ⟨b, off, none⟩ else some ⟨b, off + 3, none⟩) l := by
  have := RowOf.drop h (k := 1) (by simp) (c := c) (by simpa using hc)
  simpa [Addr.add] using this
/-- The length of a slice value. -/
def lenOf : Value → Nat
  | .slice _ n _ => n
  | _ => 0

def chkFrom : Int → List Mp → Int
  | _, [] => 0
  | last, m :: r => if m.v < 0 ∨ 281474976710655 < m.v then 2 else if m.v ≤ last then 8 else chkFrom m.v r
def chk (l : List Mp) : Int := chkFrom (-1) l
def lastV (l : List Mp) (k : Nat) : Int := if k = 0 then -1 else (nth mp0 l (k - 1)).v
theorem lastV_zero (l : List Mp) : lastV l 0 = -1 := rfl
theorem lastV_succ (l : List Mp) (k : Nat) : lastV l (k + 1) = (nth mp0 l k).v := by simp [lastV]
theorem lastV_pos (l : List Mp) {k : Nat} (h : 0 < k) : lastV l k = (nth mp0 l (k - 1)).v := by unfold lastV; rw [if_neg (by omega)]
/-- The first k mappings are right. -/
def ChkAt (l : List Mp) (k : Nat) : Prop := chkFrom (lastV l k) (l.drop k) = chk l
section
variable {l : List Mp} {k : Nat}
theorem ChkAt.zero (l : List Mp) : ChkAt l 0 := by simp [ChkAt, lastV, chk]
theorem ChkAt.done (h : ChkAt l k) (hk : l.length ≤ k) : chk l = 0 := by
  unfold ChkAt at h; rw [← h, List.drop_eq_nil_of_le hk]; rfl
theorem ChkAt.range (h : ChkAt l k) (hk : k < l.length) (hb : (nth mp0 l k).v < 0 ∨ 281474976710655 < (nth mp0 l k).v) : chk l = 2 := by
  unfold ChkAt at h; rw [← h, drop_nth mp0 l k hk]; simp [chkFrom, hb]
theorem ChkAt.order (h : ChkAt l k) (hk : k < l.length) (h0 : 0 ≤ (nth mp0 l k).v) (h1 : (nth mp0 l k).v ≤ 281474976710655) (hb : (nth mp0 l k).v ≤ lastV l k) : chk l = 8 := by
  unfold ChkAt at h; rw [← h, drop_nth mp0 l k hk]; simp only [chkFrom]; rw [if_neg (by omega), if_pos hb]
theorem ChkAt.next (h : ChkAt l k) (hk : k < l.length) (h0 : 0 ≤ (nth mp0 l k).v) (h1 : (nth mp0 l k).v ≤ 281474976710655) (hb : lastV l k < (nth mp0 l k).v) : ChkAt l (k + 1) := by
  unfold ChkAt at h ⊢; rw [← h, drop_nth mp0 l k hk, lastV_succ]; simp only [chkFrom]; rw [if_neg (by omega), if_neg (by omega)]
end
end Go.Proofs.Ytolpgblegbahgaa
