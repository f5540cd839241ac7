/- Words for clones of rows. No condition. -/
import Derived.Test.YtolpgblegbahgaaProg
import Derived.Test.YtolpgblegbahgaaMap
import Derived.Test.YtolpgblegbahgaaCells
namespace Go.Proofs.Ytolpgblegbahgaa
open Go.RowKit
theorem info_int : (Try.prog.info? 3).map (fun i => (i.zero, i.size, i.bytes)) = some (some (.int .i64 0), 1, 8) := by kernel_rfl
theorem info_map : (Try.prog.info? 63).map (fun i => (i.zero, i.size, i.bytes)) = some (some (.agg #[.int .i64 0, .int .i64 0, .int .i64 0]), 3, 24) := by kernel_rfl
/-- Blocks of S, and new ones. -/
def Or_ (S : Nat → Prop) (B B' : Nat) : Nat → Prop := fun b => S b ∨ (B ≤ b ∧ b < B')

theorem own_isl {α : Type} {R : Rel α} {size : Nat} {d : α} {w : World} {S S' : Nat → Prop} {l : List α} {xs : List Value} {base e : Nat} {v : Value} (h : w.ownsRow base e size v l.length xs) (hc : CellsOf R size d w S l xs) (hR : Stable R) (hs : ∀ b, S b → S' b) (hb : ∀ b, base ≤ b → b < w.heap.size → S' b) :
    IsSl R size d w S' v l := IsSl.ownCells h rfl hc hs hb hR
theorem rmp_one : ∀ (w : World) (S : Nat → Prop) cs x, RMp w S cs x → ∀ u ∈ cs, u.oneCell' = true := fun _ _ cs x h => by obtain rfl : cs = _ := h; exact Mp.enc_one x
end Go.Proofs.Ytolpgblegbahgaa
