/- Blocks that hold a pool, a device. No condition. -/
import Derived.Test.YtobklchhlfhpjaaProg
import Derived.Test.YtobklchhlfhpjaaPool
namespace Go.Proofs.Ytobklchhlfhpjaa
open Go.RowKit
/-- Block b holds just a pool. -/
def PBox (w : World) (b : Nat) (p : Pool) (A : Option Addr) (n c : Nat) : Prop := w.heap[b]? = some (.cells #[.int .i64 p.tx, .int .i64 p.time, .int .i64 p.unit, .int .i64 p.data, .slice A n c] 24 (0, 0))
theorem PBox.lt {w : World} {b : Nat} {p : Pool} {A : Option Addr} {n c : Nat} (h : PBox w b p A n c) : b < w.heap.size := (Array.getElem?_eq_some_iff.1 h).1
theorem PBox.new (w : World) (p : Pool) (A : Option Addr) (n c : Nat) : PBox (w.alloc (.cells #[.int .i64 p.tx, .int .i64 p.time, .int .i64 p.unit, .int .i64 p.data, .slice A n c] 24)) w.heap.size p A n c := heap_alloc_new w _
theorem PBox.below {w w' : World} {b : Nat} {p : Pool} {A : Option Addr} {n c k : Nat} (h : PBox w b p A n c) (hb : Below k w w') (hk : b < k) : PBox w' b p A n c := (hb.block b hk).trans h
theorem PBox.cells {w : World} {b : Nat} {p : Pool} {A : Option Addr} {n c : Nat} (h : PBox w b p A n c) : w.cell? ⟨b, 0, none⟩ = some (.int .i64 p.tx) ∧ w.cell? ⟨b, 1, none⟩ = some (.int .i64 p.time) ∧ w.cell? ⟨b, 2, none⟩ = some (.int .i64 p.unit) ∧ w.cell? ⟨b, 3, none⟩ = some (.int .i64 p.data) ∧ w.cell? ⟨b, 4, none⟩ = some (.slice A n c) := by
  unfold PBox at h
  simp [World.cell?, h]

abbrev devV (d : Dev) (A : Option Addr) (c : Nat) : Value := .agg #[.int .i64 d.id, .int .i64 d.tx, .int .i64 d.made, .int .i64 d.snapped, .slice A d.maps.length c]
abbrev devBox (d : Dev) (A : Option Addr) (c : Nat) : Obj := .cells #[.int .i64 d.id, .int .i64 d.tx, .int .i64 d.made, .int .i64 d.snapped, .slice A d.maps.length c] 40
end Go.Proofs.Ytobklchhlfhpjaa
