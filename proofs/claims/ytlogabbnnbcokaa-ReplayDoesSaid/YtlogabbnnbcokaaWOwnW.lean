/- The reference's writes, copied one by one: words for that loop. No condition. -/
import Derived.Test.YtlogabbnnbcokaaWLives51
namespace Go.Proofs.Ytlogabbnnbcokaa
open Go.RowKit

/-- The cells of write k, as they lie in memory. -/
def encWi (l : List Wr) (V : Nat → Option Addr × Nat) (k : Nat) : List Value := [.int .i64 (nth wr0 l k).no, .slice (V k).1 (nth wr0 l k).bytes.length (V k).2]
theorem encWi_len (l : List Wr) (V : Nat → Option Addr × Nat) (k : Nat) : (encWi l V k).length = 2 := rfl
theorem encWi_one (l : List Wr) (V : Nat → Option Addr × Nat) (k : Nat) : ∀ u ∈ encWi l V k, u.oneCell' = true := by
  intro u hu; simp [encWi] at hu; rcases hu with rfl | rfl <;> rfl
theorem info_rwr : (Try.prog.info? 29).map (fun i => (i.zero, i.size, i.bytes)) = some (some (.agg #[.int .i64 0, .slice none 0 0]), 2, 32) := by kernel_rfl
theorem elWi (l : List Wr) (V : Nat → Option Addr × Nat) : Elem Try.prog 27 29 2 32 (encWi l V) := ⟨Try.underlying27, ⟨_, info_rwr, rfl⟩, by omega, by omega, encWi_len l V, encWi_one l V⟩
/-- All copied: they read as the writes. -/
theorem own_wrs {w : World} {base e n b off : Nat} {v : Value} {l : List Wr} {S S' : Nat → Prop} {V : Nat → Option Addr × Nat} (h : w.ownsRow base e 2 v n (flats (encWi l V) (List.range n))) (hn : n = l.length) (hat : WrAt w S b off l V) (hs : ∀ b, S b → S' b) (hb : ∀ g, base ≤ g → g < w.heap.size → S' g) : IsWrs w S' v l := by
  subst hn
  refine IsSl.ownCells (S := S) h rfl ⟨?_, fun k hk => ?_⟩ hs hb rwr_stable
  · rw [flats_length (encWi_len l V), List.length_range]
  · obtain ⟨h1, h2, h3, h4⟩ := hat k hk
    refine ⟨encWi l V k, rfl, ⟨(V k).1, (V k).2, rfl, h3, h4⟩, fun j hj => ?_⟩
    have e := flats_get (enc := encWi l V) (size := 2) (d := 0) (encWi_len l V) (List.range l.length) k j ((encWi l V k)[j]'(by rw [encWi_len]; exact hj)) (by rw [List.length_range]; exact hk) (by rw [nth_get 0 _ k (by rw [List.length_range]; exact hk), List.getElem_range]; exact List.getElem?_eq_getElem _)
    rw [e]
    exact (List.getElem?_eq_getElem _).symm
end Go.Proofs.Ytlogabbnnbcokaa
