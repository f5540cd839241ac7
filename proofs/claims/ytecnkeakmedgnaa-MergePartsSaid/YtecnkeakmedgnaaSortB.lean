/- slices.SortFunc at mappings in a row of the call's own. No condition: for any program. -/
import Derived.Test.YtecnkeakmedgnaaClearK
import Derived.Shelf.SlSortCmp.NoneTotal
namespace Go.Proofs.Ytecnkeakmedgnaa
open Go Go.RowKit Go.Shelf Go.Sort

instance : Inhabited Mp := ⟨mp0⟩
theorem mpget (l : List Mp) (i : Nat) (h : i < l.length) : l.toArray[i]! = nth mp0 l i := by
  rw [nth_get mp0 l i h, getElem!_pos _ _ (by simpa using h)]; simp
theorem flatK_flats (l : List Mp) : (flatK Mp.enc 3 l.toArray).toList = flats Mp.enc l := by
  apply List.ext_getElem?
  intro i
  by_cases hi : i < l.length * 3
  · have h1 : (flatK Mp.enc 3 l.toArray).toList[i]? = some (flatK Mp.enc 3 l.toArray)[i]! := by
      rw [getElem!_pos _ _ (by rw [size_flatK]; simpa using hi)]
      simp [size_flatK, hi]
    have hl : i % 3 < (Mp.enc (nth mp0 l (i / 3))).length := by rw [Mp.enc_len]; omega
    have h2 := flats_get (d := mp0) Mp.enc_len l (i / 3) (i % 3) _ (by omega) (List.getElem?_eq_getElem hl)
    rw [show i / 3 * 3 + i % 3 = i by omega] at h2
    rw [h1, h2, get_flatK _ _ _ _ (by simpa using hi), mpget l _ (by omega), getElem!_pos (Mp.enc (nth mp0 l (i / 3))) (i % 3) hl]
  · rw [List.getElem?_eq_none (by simp [size_flatK]; omega), List.getElem?_eq_none (by rw [flats_length Mp.enc_len]; omega)]
section
variable {w : World} {base e g n c : Nat} {l l' : List Mp}
theorem own_holds (h : w.ownsRow base e 3 (.slice (some ⟨g, 0, none⟩) n c) n (flats Mp.enc l)) (_ : l.length = n) : HoldsK Mp.enc 3 w g 0 l.toArray := by
  intro j hj
  rw [size_flatK] at hj
  simp only [List.size_toArray] at hj
  refine ⟨?_, h.frozenAt _⟩
  rw [Nat.zero_add, h.cellAt _ (by omega), ← flatK_flats]
  rw [getElem!_pos _ _ (by rw [size_flatK]; simpa using hj)]
  simp [size_flatK, hj]
theorem own_sorted (h : w.ownsRow base e 3 (.slice (some ⟨g, 0, none⟩) n c) n (flats Mp.enc l)) (_ : l.length = n) (hl' : l'.length = n) (m : Nat) (os : Array Obj) :
    (sortWorldK Mp.enc 3 w g 0 m l'.toArray os).ownsRow base e 3 (.slice (some ⟨g, 0, none⟩) n c) n (flats Mp.enc l') ∧ Below base w (sortWorldK Mp.enc 3 w g 0 m l'.toArray os) := by
  rcases h.2 with ⟨hv, _⟩ | ⟨g', cap', cur, hv, hb, hg, hnc, hcm, hcs, htake⟩
  · injection hv with e1; cases e1
  · injection hv with e1 e2 e3
    injection e1 with e1
    injection e1 with e1
    subst e1 e3
    have hlt : g < w.heap.size := (Array.getElem?_eq_some_iff.1 hg).1
    have hblk : ∀ k, k < w.heap.size → (sortWorldK Mp.enc 3 w g 0 m l'.toArray os).heap[k]? = (putRowK Mp.enc 3 w g 0 l'.toArray).heap[k]? := fun k hk => by
      have hsz : (putRowK Mp.enc 3 w g 0 l'.toArray).heap.size = w.heap.size := size_putRow _ _ _ _ _
      show ((putRowK Mp.enc 3 w g 0 l'.toArray).heap ++ os)[k]? = _
      rw [Array.getElem?_append_left (by rw [hsz]; exact hk)]
    have hnew : (sortWorldK Mp.enc 3 w g 0 m l'.toArray os).heap[g]? = some (.cells (putCells id 0 (flatK Mp.enc 3 l'.toArray) cur) e (0, 0)) := by
      rw [hblk g hlt]
      simp [putRowK, putRow, mapBlock, Array.getElem?_modify, hg, onCells]
    refine ⟨⟨by rw [flats_length Mp.enc_len, hl'], .inr ⟨g, c, _, rfl, hb, hnew, hnc, hcm, by simpa [putCells] using hcs, ?_⟩⟩, rfl, rfl, rfl, ?_, fun k hk => ?_⟩
    · rw [← flatK_flats]
      apply List.ext_getElem?
      intro i
      rw [List.getElem?_take]
      have hle : n * 3 ≤ cur.size := by rw [hcs]; exact Nat.mul_le_mul_right _ hnc
      by_cases hi : i < n * 3
      · rw [if_pos hi]
        have h3 : i < (flatK Mp.enc 3 l'.toArray).size := by rw [size_flatK]; simpa [hl'] using hi
        have hic : i < cur.size := by omega
        rw [Array.getElem?_toList, Array.getElem?_toList]
        unfold putCells
        rw [Array.getElem?_mapIdx, Array.getElem?_eq_getElem hic, Array.getElem?_eq_getElem h3]
        simp only [Option.map_some, Nat.zero_le, Nat.zero_add, true_and, Nat.sub_zero, id]
        rw [if_pos h3, getElem!_pos (flatK Mp.enc 3 l'.toArray) i h3]
      · rw [if_neg hi, List.getElem?_eq_none (by simp [size_flatK, hl']; omega)]
    · show w.heap.size ≤ ((putRowK Mp.enc 3 w g 0 l'.toArray).heap ++ os).size
      have hsz : (putRowK Mp.enc 3 w g 0 l'.toArray).heap.size = w.heap.size := size_putRow _ _ _ _ _
      rw [Array.size_append, hsz]; omega
    · rw [hblk k (by omega)]
      have hne : g ≠ k := by omega
      simp [putRowK, putRow, mapBlock, Array.getElem?_modify, hne]
end
end Go.Proofs.Ytecnkeakmedgnaa
