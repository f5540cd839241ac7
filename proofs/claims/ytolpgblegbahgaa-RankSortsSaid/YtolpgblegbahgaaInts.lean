/- Slices of integers. No condition: no program is in sight here. -/
import Derived.Test.YtolpgblegbahgaaPool
namespace Go.Proofs.Ytolpgblegbahgaa
open Go.RowKit
/-- A slice of integers. -/
abbrev IsInts (w : World) (S : Nat → Prop) (v : Value) (l : List Int) : Prop := IsSl (Flat fun n : Int => [.int .i64 n]) 1 0 w S v l
theorem ints_cells {w : World} {S : Nat → Prop} {A : Option Addr} {l : List Int} (h : RowOf (Flat fun n : Int => [.int .i64 n]) 1 0 w S A l) (hl : 0 < l.length) :
    ∃ b off, A = some ⟨b, off, none⟩ ∧ S b ∧ ∀ k, k < l.length → w.cell? ⟨b, off + k, none⟩ = some (.int .i64 (nth 0 l k)) := by
  obtain ⟨b, off, e, hb, hc⟩ := h hl
  refine ⟨b, off, e, hb, fun k hk => ?_⟩
  obtain ⟨cs, _, hr, h3⟩ := hc k hk
  obtain rfl : cs = _ := hr
  have := h3 0 _ rfl
  simpa using this

end Go.Proofs.Ytolpgblegbahgaa
