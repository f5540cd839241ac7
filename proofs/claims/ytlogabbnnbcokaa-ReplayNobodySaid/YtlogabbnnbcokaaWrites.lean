/- Writes of blocks: how they lie in memory, and what they do to an image's blocks. No condition: no program is in sight here. -/
import Derived.Test.YtlogabbnnbcokaaBytes
namespace Go.Proofs.Ytlogabbnnbcokaa
open Go.RowKit

structure Wr where
  no : Int
  bytes : List UInt8
def wr0 : Wr := ⟨0, []⟩
instance : Inhabited Wr := ⟨wr0⟩
def RWr : Rel Wr := fun w S cs x => ∃ A c, cs = [.int .i64 x.no, .slice A x.bytes.length c] ∧ x.bytes.length ≤ c ∧ ByteRow w S A x.bytes
theorem rwr_stable : Stable RWr := by
  rintro w w' S S' cs d hs hk ⟨A, c, e, hc, hr⟩
  exact ⟨A, c, e, hc, hr.keep (flat_stable _) hs hk⟩
abbrev WrRow (w : World) (S : Nat → Prop) (A : Option Addr) (l : List Wr) : Prop := RowOf RWr 2 wr0 w S A l
abbrev IsWrs (w : World) (S : Nat → Prop) (v : Value) (l : List Wr) : Prop := IsSl RWr 2 wr0 w S v l
/-- Where the bytes of each write lie. -/
def WrAt (w : World) (S : Nat → Prop) (b off : Nat) (l : List Wr) (V : Nat → Option Addr × Nat) : Prop := ∀ k, k < l.length → w.cell? ⟨b, off + k * 2, none⟩ = some (.int .i64 (nth wr0 l k).no) ∧ w.cell? ⟨b, off + k * 2 + 1, none⟩ = some (.slice (V k).1 (nth wr0 l k).bytes.length (V k).2) ∧ (nth wr0 l k).bytes.length ≤ (V k).2 ∧ ByteRow w S (V k).1 (nth wr0 l k).bytes
theorem wrs_cells {w : World} {S : Nat → Prop} {A : Option Addr} {l : List Wr} (h : WrRow w S A l) : ∃ V : Nat → Option Addr × Nat, 0 < l.length → ∃ b off, A = some ⟨b, off, none⟩ ∧ S b ∧ WrAt w S b off l V := by
  by_cases hl : 0 < l.length
  · obtain ⟨b, off, e, hb, hc⟩ := h hl
    have hex : ∀ k, k < l.length → ∃ V : Option Addr × Nat, w.cell? ⟨b, off + k * 2, none⟩ = some (.int .i64 (nth wr0 l k).no) ∧ w.cell? ⟨b, off + k * 2 + 1, none⟩ = some (.slice V.1 (nth wr0 l k).bytes.length V.2) ∧ (nth wr0 l k).bytes.length ≤ V.2 ∧ ByteRow w S V.1 (nth wr0 l k).bytes := by
      intro k hk
      obtain ⟨cs, _, ⟨A', c', rfl, hc', hr⟩, h3⟩ := hc k hk
      exact ⟨(A', c'), h3 0 _ rfl, h3 1 _ rfl, hc', hr⟩
    have : Inhabited (Option Addr × Nat) := ⟨(none, 0)⟩
    obtain ⟨V, hV⟩ := Go.Deep.choose_lt hex
    exact ⟨V, fun _ => ⟨b, off, e, hb, hV⟩⟩
  · exact ⟨fun _ => (none, 0), fun h => absurd h hl⟩
theorem WrAt.keep {w w' : World} {S : Nat → Prop} {b off : Nat} {l : List Wr} {V : Nat → Option Addr × Nat} (h : WrAt w S b off l V) (hS : S b) (hk : Keep S w w') : WrAt w' S b off l V := fun k hk' => by
  obtain ⟨h1, h2, h3, h4⟩ := h k hk'
  exact ⟨(hk b _ hS).trans h1, (hk b _ hS).trans h2, h3, h4.keep (flat_stable _) (fun _ h => h) hk⟩
/-- A write by value. -/
abbrev wrV (x : Wr) (V : Option Addr × Nat) : Value := .agg #[.int .i64 x.no, .slice V.1 x.bytes.length V.2]
def okW (x : Wr) : Prop := x.bytes.length ≤ 140737488355328
end Go.Proofs.Ytlogabbnnbcokaa
