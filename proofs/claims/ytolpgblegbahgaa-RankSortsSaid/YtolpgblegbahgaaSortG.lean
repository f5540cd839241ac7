/- slices.SortFunc at elements of whatever cells, in a row of the call's own. No condition: for any program. -/
import Derived.Test.YtolpgblegbahgaaBase
import Derived.Shelf.SlSortCmp.NoneTotal
import Derived.Laws.OwnMore
namespace Go.Proofs.Ytolpgblegbahgaa
open Go Go.RowKit Go.Shelf Go.Sort

section
variable {α : Type} [Inhabited α] {enc : α → List Value} {k : Nat} {d : α}
theorem elget (d : α) (l : List α) (i : Nat) (h : i < l.length) : l.toArray[i]! = nth d l i := by
  rw [nth_get d l i h, getElem!_pos _ _ (by simpa using h)]; simp
theorem flatK_flatsG (d : α) (he : ∀ x, (enc x).length = k) (h0 : 0 < k) (l : List α) : (flatK enc k l.toArray).toList = flats enc l := by
  apply List.ext_getElem?
  intro i
  by_cases hi : i < l.length * k
  · have h1 : (flatK enc k l.toArray).toList[i]? = some (flatK enc k l.toArray)[i]! := by
      rw [getElem!_pos _ _ (by rw [size_flatK]; simpa using hi)]
      simp [size_flatK, hi]
    have hd : i / k < l.length := by
      rw [Nat.div_lt_iff_lt_mul h0]; exact hi
    have hm : i % k < k := Nat.mod_lt _ h0
    have hl : i % k < (enc (nth d l (i / k))).length := by rw [he]; exact hm
    have h2 := flats_get (d := d) he l (i / k) (i % k) _ hd (List.getElem?_eq_getElem hl)
    rw [show i / k * k + i % k = i by rw [Nat.mul_comm]; exact Nat.div_add_mod i k] at h2
    rw [h1, h2, get_flatK _ _ _ _ (by simpa using hi), elget d l _ hd, getElem!_pos (enc (nth d l (i / k))) (i % k) hl]
  · rw [List.getElem?_eq_none (by simp [size_flatK]; omega), List.getElem?_eq_none (by rw [flats_length he]; omega)]
variable {w : World} {base e g n c : Nat} {l l' : List α}
theorem own_holdsG (d : α) (he : ∀ x, (enc x).length = k) (h0 : 0 < k) (h : w.ownsRow base e k (.slice (some ⟨g, 0, none⟩) n c) n (flats enc l)) : HoldsK enc k w g 0 l.toArray := by
  have hl : l.length = n := by
    have h1 := h.1
    rw [flats_length he] at h1
    exact Nat.eq_of_mul_eq_mul_right h0 h1
  intro j hj
  rw [size_flatK] at hj
  simp only [List.size_toArray] at hj
  refine ⟨?_, h.frozenAt _⟩
  rw [Nat.zero_add, h.cellAt _ (by rw [← hl]; exact hj), ← flatK_flatsG d he h0]
  rw [getElem!_pos _ _ (by rw [size_flatK]; simpa using hj)]
  simp [size_flatK, hj]
theorem own_sortedG (d : α) (he : ∀ x, (enc x).length = k) (h0 : 0 < k) (h : w.ownsRow base e k (.slice (some ⟨g, 0, none⟩) n c) n (flats enc l)) (hl' : l'.length = n) (m : Nat) (os : Array Obj) :
    (sortWorldK enc k w g 0 m l'.toArray os).ownsRow base e k (.slice (some ⟨g, 0, none⟩) n c) n (flats enc l') ∧ RowKit.Below base w (sortWorldK enc k w g 0 m l'.toArray os) := by
  rcases h.2 with ⟨hv, _⟩ | ⟨g', cap', cur, hv, hb, hg, hnc, hcm, hcs, htake⟩
  · injection hv with e1; cases e1
  · injection hv with e1 e2 e3
    injection e1 with e1
    injection e1 with e1
    subst e1 e3
    have hlt : g < w.heap.size := (Array.getElem?_eq_some_iff.1 hg).1
    have hblk : ∀ j, j < w.heap.size → (sortWorldK enc k w g 0 m l'.toArray os).heap[j]? = (putRowK enc k w g 0 l'.toArray).heap[j]? := fun j hj => by
      have hsz : (putRowK enc k w g 0 l'.toArray).heap.size = w.heap.size := size_putRow _ _ _ _ _
      show ((putRowK enc k w g 0 l'.toArray).heap ++ os)[j]? = _
      rw [Array.getElem?_append_left (by rw [hsz]; exact hj)]
    have hnew : (sortWorldK enc k w g 0 m l'.toArray os).heap[g]? = some (.cells (putCells id 0 (flatK enc k l'.toArray) cur) e (0, 0)) := by
      rw [hblk g hlt]
      simp [putRowK, putRow, mapBlock, Array.getElem?_modify, hg, onCells]
    refine ⟨⟨by rw [flats_length he, hl'], .inr ⟨g, c, _, rfl, hb, hnew, hnc, hcm, by simpa [putCells] using hcs, ?_⟩⟩, rfl, rfl, rfl, ?_, fun j hj => ?_⟩
    · rw [← flatK_flatsG d he h0]
      apply List.ext_getElem?
      intro i
      rw [List.getElem?_take]
      have hle : n * k ≤ cur.size := by rw [hcs]; exact Nat.mul_le_mul_right _ hnc
      by_cases hi : i < n * k
      · rw [if_pos hi]
        have h3 : i < (flatK enc k l'.toArray).size := by rw [size_flatK]; simpa [hl'] using hi
        have hic : i < cur.size := by omega
        rw [Array.getElem?_toList, Array.getElem?_toList]
        unfold putCells
        rw [Array.getElem?_mapIdx, Array.getElem?_eq_getElem hic, Array.getElem?_eq_getElem h3]
        simp only [Option.map_some, Nat.zero_le, Nat.zero_add, true_and, Nat.sub_zero, id]
        rw [if_pos h3, getElem!_pos (flatK enc k l'.toArray) i h3]
      · rw [if_neg hi, List.getElem?_eq_none (by simp [size_flatK, hl']; omega)]
    · show w.heap.size ≤ ((putRowK enc k w g 0 l'.toArray).heap ++ os).size
      have hsz : (putRowK enc k w g 0 l'.toArray).heap.size = w.heap.size := size_putRow _ _ _ _ _
      rw [Array.size_append, hsz]; omega
    · rw [hblk j (by omega)]
      have hne : g ≠ j := by omega
      simp [putRowK, putRow, mapBlock, Array.getElem?_modify, hne]
end
end Go.Proofs.Ytolpgblegbahgaa
