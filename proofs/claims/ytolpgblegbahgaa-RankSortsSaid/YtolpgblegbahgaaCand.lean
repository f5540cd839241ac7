/- Candidates: how they lie in memory, and which is ahead, as plain Lean. No condition. -/
import Derived.Test.YtolpgblegbahgaaWLatest
import Derived.Test.YtolpgblegbahgaaWCount
namespace Go.Proofs.Ytolpgblegbahgaa
open Go.RowKit

structure Cand where
  super : Bool
  top : Int
  details : Int
  pool : Pool
def cand0 : Cand := ⟨false, 0, 0, pool0⟩
abbrev Cand.cells (c : Cand) (A : Option Addr) (n : Nat) : Array Value := #[.bool c.super, .int .i64 c.top, .int .i64 c.details, .int .i64 c.pool.tx, .int .i64 c.pool.time, .int .i64 c.pool.unit, .int .i64 c.pool.data, .slice A c.pool.devs.length n]
abbrev candV (c : Cand) (A : Option Addr) (n : Nat) : Value := .agg (c.cells A n)
abbrev candBox (c : Cand) (A : Option Addr) (n : Nat) : Obj := .cells (c.cells A n) 33
def RCand : Rel Cand := fun w S cs c => ∃ A n, cs = (c.cells A n).toList ∧ c.pool.devs.length ≤ n ∧ DevRow w S A c.pool.devs
theorem rcand_stable : Stable RCand := by
  rintro w w' S S' cs d hs hk ⟨A, c, e, hc, hr⟩
  exact ⟨A, c, e, hc, hr.keep rdev_stable hs hk⟩
/-- A candidate by value. -/
def IsCand (w : World) (S : Nat → Prop) (v : Value) (c : Cand) : Prop := ∃ A n, v = candV c A n ∧ c.pool.devs.length ≤ n ∧ DevRow w S A c.pool.devs
theorem IsCand.keep {w w' : World} {S S' : Nat → Prop} {v : Value} {c : Cand} (h : IsCand w S v c) (hs : ∀ b, S b → S' b) (hk : Keep S w w') : IsCand w' S' v c := by
  obtain ⟨A, n, e, hc, hr⟩ := h
  exact ⟨A, n, e, hc, hr.keep rdev_stable hs hk⟩
theorem IsCand.below {B : Nat} {w w' : World} {S : Nat → Prop} {v : Value} {c : Cand} (h : IsCand w S v c) (hB : Below B w w') (hs : ∀ b, S b → b < B) : IsCand w' S v c := h.keep (fun _ h => h) (keep_below hB hs)
/-- Block b holds just a candidate. -/
def CBox (w : World) (b : Nat) (c : Cand) (A : Option Addr) (n : Nat) : Prop := w.heap[b]? = some (.cells (c.cells A n) 33 (0, 0))
theorem CBox.lt {w : World} {b : Nat} {c : Cand} {A : Option Addr} {n : Nat} (h : CBox w b c A n) : b < w.heap.size := (Array.getElem?_eq_some_iff.1 h).1
theorem CBox.new (w : World) (c : Cand) (A : Option Addr) (n : Nat) : CBox (w.alloc (candBox c A n)) w.heap.size c A n := heap_alloc_new w _
theorem CBox.below {w w' : World} {b : Nat} {c : Cand} {A : Option Addr} {n k : Nat} (h : CBox w b c A n) (hb : Below k w w') (hk : b < k) : CBox w' b c A n := (hb.block b hk).trans h
theorem CBox.cells {w : World} {b : Nat} {c : Cand} {A : Option Addr} {n : Nat} (h : CBox w b c A n) : w.cell? ⟨b, 0, none⟩ = some (.bool c.super) ∧ w.cell? ⟨b, 1, none⟩ = some (.int .i64 c.top) ∧ w.cell? ⟨b, 2, none⟩ = some (.int .i64 c.details) ∧ w.cell? ⟨b, 3, none⟩ = some (.int .i64 c.pool.tx) ∧ w.cell? ⟨b, 4, none⟩ = some (.int .i64 c.pool.time) ∧ w.cell? ⟨b, 5, none⟩ = some (.int .i64 c.pool.unit) ∧ w.cell? ⟨b, 6, none⟩ = some (.int .i64 c.pool.data) ∧ w.cell? ⟨b, 7, none⟩ = some (.slice A c.pool.devs.length n) := by
  unfold CBox at h
  simp [World.cell?, h]
theorem IsCand.pool {w : World} {S : Nat → Prop} {c : Cand} {A : Option Addr} {n : Nat} (h : IsCand w S (candV c A n) c) : IsPool w S (.agg #[.int .i64 c.pool.tx, .int .i64 c.pool.time, .int .i64 c.pool.unit, .int .i64 c.pool.data, .slice A c.pool.devs.length n]) c.pool := by
  obtain ⟨A', n', e, hc, hr⟩ := h
  simp at e
  obtain ⟨rfl, rfl⟩ := e
  exact ⟨A, n, rfl, hc, hr⟩
def Cand.ok (c : Cand) : Prop := In64 c.top ∧ In64 c.details ∧ c.pool.ok
/-- What the comparisons want: the pool is small. -/
def Cand.few (c : Cand) : Prop := c.pool.ok ∧ c.pool.devs.length ≤ 1099511627776 ∧ c.pool.count ≤ 4611686018427387904

def cmpI (a b : Int) : Int := if a < b then -1 else if a > b then 1 else 0
def firstI (c : Cand) : Int := if c.super = true then 0 else 1
def orI : List Int → Int
  | [] => 0
  | x :: l => if x = 0 then orI l else x
def cmpL (a b : Cand) : List Int := [cmpI (firstI a) (firstI b), cmpI b.pool.latest a.pool.latest, cmpI b.pool.devs.length a.pool.devs.length, cmpI b.pool.count a.pool.count, cmpI a.top b.top, cmpI a.details b.details]
def cmpC (a b : Cand) : Int := orI (cmpL a b)
theorem orI_step {l : List Int} {k : Nat} (h : k < l.length) (h0 : nth 0 l k = 0) : orI (l.drop k) = orI (l.drop (k + 1)) := by
  rw [drop_nth 0 l k h, orI, if_pos h0]
theorem orI_stop {l : List Int} {k : Nat} (h : k < l.length) (h0 : nth 0 l k ≠ 0) : orI (l.drop k) = nth 0 l k := by
  rw [drop_nth 0 l k h, orI, if_neg h0]
end Go.Proofs.Ytolpgblegbahgaa
