/- Blocks that hold a pool, a device. No condition. -/
import Derived.Test.YtolpgblegbahgaaProg
import Derived.Test.YtolpgblegbahgaaPool
namespace Go.Proofs.Ytolpgblegbahgaa
open Go.RowKit
/-- The box that a pool by value is laid in at a function's head. -/
abbrev poolBox (p : Pool) (A : Option Addr) (n c : Nat) : Obj := .cells #[.int .i64 p.tx, .int .i64 p.time, .int .i64 p.unit, .int .i64 p.data, .slice A n c] 31
/-- Block b holds just a pool. -/
def PBox (w : World) (b : Nat) (p : Pool) (A : Option Addr) (n c : Nat) : Prop := w.heap[b]? = some (.cells #[.int .i64 p.tx, .int .i64 p.time, .int .i64 p.unit, .int .i64 p.data, .slice A n c] 31 (0, 0))
theorem PBox.lt {w : World} {b : Nat} {p : Pool} {A : Option Addr} {n c : Nat} (h : PBox w b p A n c) : b < w.heap.size := (Array.getElem?_eq_some_iff.1 h).1
theorem PBox.new (w : World) (p : Pool) (A : Option Addr) (n c : Nat) : PBox (w.alloc (.cells #[.int .i64 p.tx, .int .i64 p.time, .int .i64 p.unit, .int .i64 p.data, .slice A n c] 31)) w.heap.size p A n c := heap_alloc_new w _
theorem PBox.below {w w' : World} {b : Nat} {p : Pool} {A : Option Addr} {n c k : Nat} (h : PBox w b p A n c) (hb : Below k w w') (hk : b < k) : PBox w' b p A n c := (hb.block b hk).trans h
theorem PBox.cells {w : World} {b : Nat} {p : Pool} {A : Option Addr} {n c : Nat} (h : PBox w b p A n c) : w.cell? ⟨b, 0, none⟩ = some (.int .i64 p.tx) ∧ w.cell? ⟨b, 1, none⟩ = some (.int .i64 p.time) ∧ w.cell? ⟨b, 2, none⟩ = some (.int .i64 p.unit) ∧ w.cell? ⟨b, 3, none⟩ = some (.int .i64 p.data) ∧ w.cell? ⟨b, 4, none⟩ = some (.slice A n c) := by
  unfold PBox at h
  simp [World.cell?, h]

abbrev devV (d : Dev) (A : Option Addr) (c : Nat) : Value := .agg #[.int .i64 d.id, .int .i64 d.tx, .int .i64 d.made, .int .i64 d.snapped, .slice A d.maps.length c]
abbrev devBox (d : Dev) (A : Option Addr) (c : Nat) : Obj := .cells #[.int .i64 d.id, .int .i64 d.tx, .int .i64 d.made, .int .i64 d.snapped, .slice A d.maps.length c] 50
theorem set5 {w : World} {b : Nat} {t : TypeId} {a0 a1 a2 a3 a4 : Value} (h : w.heap[b]? = some (.cells #[a0, a1, a2, a3, a4] t (0, 0))) (u0 u1 u2 u3 u4 : Value) :
    (((((w.setCell ⟨b, 0, none⟩ u0).setCell ⟨b, 1, none⟩ u1).setCell ⟨b, 2, none⟩ u2).setCell ⟨b, 3, none⟩ u3).setCell ⟨b, 4, none⟩ u4).heap[b]? = some (.cells #[u0, u1, u2, u3, u4] t (0, 0)) := by
  simp [World.setCell, Array.getElem?_modify, h]
theorem below5 {w0 w : World} {B b : Nat} (h : Below B w0 w) (hb : B ≤ b) (u0 u1 u2 u3 u4 : Value) :
    Below B w0 (((((w.setCell ⟨b, 0, none⟩ u0).setCell ⟨b, 1, none⟩ u1).setCell ⟨b, 2, none⟩ u2).setCell ⟨b, 3, none⟩ u3).setCell ⟨b, 4, none⟩ u4) :=
  ((((h.setCell (p := ⟨b, 0, none⟩) hb u0).setCell (p := ⟨b, 1, none⟩) hb u1).setCell (p := ⟨b, 2, none⟩) hb u2).setCell (p := ⟨b, 3, none⟩) hb u3).setCell (p := ⟨b, 4, none⟩) hb u4
theorem size5 (w : World) (b : Nat) (u0 u1 u2 u3 u4 : Value) : (((((w.setCell ⟨b, 0, none⟩ u0).setCell ⟨b, 1, none⟩ u1).setCell ⟨b, 2, none⟩ u2).setCell ⟨b, 3, none⟩ u3).setCell ⟨b, 4, none⟩ u4).heap.size = w.heap.size := by
  simp [World.setCell]
theorem cells5 {w : World} {b : Nat} {t : TypeId} {a0 a1 a2 a3 a4 : Value} (h : w.heap[b]? = some (.cells #[a0, a1, a2, a3, a4] t (0, 0))) :
    w.cell? ⟨b, 0, none⟩ = some a0 ∧ w.cell? ⟨b, 1, none⟩ = some a1 ∧ w.cell? ⟨b, 2, none⟩ = some a2 ∧ w.cell? ⟨b, 3, none⟩ = some a3 ∧ w.cell? ⟨b, 4, none⟩ = some a4 := by
  simp [World.cell?, h]
end Go.Proofs.Ytolpgblegbahgaa
