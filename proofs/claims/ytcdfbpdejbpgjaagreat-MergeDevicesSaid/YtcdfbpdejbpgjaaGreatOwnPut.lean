/- A device's mappings are put into its place in the row of devices. No condition. -/
import Derived.Test.YtcdfbpdejbpgjaaGreatOwnPool
import Derived.Test.YtcdfbpdejbpgjaaGreatModelP
namespace Go.Proofs.YtcdfbpdejbpgjaaGreat
open Go.RowKit

theorem OwnDevs.put {w w1 : World} {base g n c r : Nat} {l : List Dev} {M : Nat → Value} {u : Value} {d : Dev} (h : OwnDevs w base (.slice (some ⟨g, 0, none⟩) n c) l M) (hr : r < l.length) (hgrow : w.grownBy w1 (M r).ownBlock)
    (hu : OwnMaps w1 base u d.maps) (hat : ∀ x, u.ownBlock = some x → (M r).ownBlock = some x ∨ w.heap.size ≤ x)
    (hd : d.id = (nth dev0 l r).id ∧ d.tx = (nth dev0 l r).tx ∧ d.made = (nth dev0 l r).made ∧ d.snapped = (nth dev0 l r).snapped) :
    OwnDevs (w1.setCell ⟨g, r * 5 + 4, none⟩ u) base (.slice (some ⟨g, 0, none⟩) n c) (l.set r d) (fun j => if j = r then u else M j) := by
  obtain ⟨xs, hrow, hc, ha⟩ := h
  obtain rfl : n = l.length := own_n hrow
  have hg : g < w.heap.size := (hrow.lt g rfl).2
  have hrow1 := hrow.kept hgrow (.inr (fun e => (hc r hr).2.2 g e.symm rfl))
  have h1 : ∀ j, j < l.length → j ≠ r → OwnMaps w1 base (M j) (nth dev0 l j).maps := fun j hj hjr => (hc j hj).2.1.kept hgrow (by
    cases hb : (M j).ownBlock with
    | none => exact .inl rfl
    | some g' => exact .inr (fun e => ha j r hj hr hjr g' (by rw [← e]) (by rw [hb])))
  have hx := own_len hrow
  have hn : ∀ j, nth dev0 (l.set r d) j = if j = r then d else nth dev0 l j := fun j => nthG_set dev0 l r j d hr
  have hgg : ∀ x, u.ownBlock = some x → x ≠ g := by
    intro x hx' e
    rcases hat x hx' with h | h
    · exact (hc r hr).2.2 x h (by rw [e]; rfl)
    · omega
  have hapn : ∀ i, i < l.length → i ≠ r → ∀ x, u.ownBlock = some x → some x ≠ (M i).ownBlock := by
    intro i hi hir x hx'
    rcases hat x hx' with h | h
    · exact ha i r hi hr hir x h
    · intro e; have := ((hc i hi).2.1.lt x e.symm).2; omega
  have hkeep : ∀ {v1 : Value} {l1 : List Mp}, OwnMaps w1 base v1 l1 → (∀ g', v1.ownBlock = some g' → g' ≠ g) → OwnMaps (w1.setCell ⟨g, r * 5 + 4, none⟩ u) base v1 l1 := by
    intro v1 l1 ho hne'
    exact ho.kept (grownBy_set w1 ⟨g, r * 5 + 4, none⟩ _) (.inr (fun e => hne' g e rfl))
  refine ⟨xs.set (r * 5 + 4) u, ?_, fun j hj => ?_, fun i j hi hj hij g' hg' => ?_⟩
  · rw [List.length_set]
    exact (hrow1.stored _ _).1
  · rw [List.length_set] at hj
    obtain ⟨⟨e0, e1, e2, e3, e4⟩, hm, hb⟩ := hc j hj
    rw [hn]
    simp only
    by_cases e : j = r
    · subst e
      rw [if_pos rfl, if_pos rfl]
      refine ⟨⟨?_, ?_, ?_, ?_, ?_⟩, hkeep hu hgg, fun g' hg' he => hgg g' hg' (by simpa [Value.ownBlock] using he)⟩
      · rw [List.getElem?_set_ne (by omega), hd.1]; exact e0
      · rw [List.getElem?_set_ne (by omega), hd.2.1]; exact e1
      · rw [List.getElem?_set_ne (by omega), hd.2.2.1]; exact e2
      · rw [List.getElem?_set_ne (by omega), hd.2.2.2]; exact e3
      · rw [List.getElem?_set_self (by omega)]
    · rw [if_neg e, if_neg e]
      refine ⟨⟨?_, ?_, ?_, ?_, ?_⟩, hkeep (h1 j hj e) (fun g' hg' he => hb g' hg' (by rw [he]; rfl)), hb⟩
      · rw [List.getElem?_set_ne (by omega)]; exact e0
      · rw [List.getElem?_set_ne (by omega)]; exact e1
      · rw [List.getElem?_set_ne (by omega)]; exact e2
      · rw [List.getElem?_set_ne (by omega)]; exact e3
      · rw [List.getElem?_set_ne (by omega)]; exact e4
  · rw [List.length_set] at hi hj
    simp only at hg' ⊢
    by_cases ei : i = r
    · rw [if_pos ei]
      rw [if_neg (by omega)] at hg'
      intro he
      exact hapn j hj (by omega) g' he.symm hg'.symm
    · rw [if_neg ei]
      by_cases ej : j = r
      · rw [if_pos ej] at hg'
        exact hapn i hi ei g' hg'
      · rw [if_neg ej] at hg'
        exact ha i j hi hj hij g' hg'
/-- The pool behind its pointer, with device k's mappings put anew. -/
theorem put_own {w w1 : World} {base g g2 n c k : Nat} {p : Pool} {M : Nat → Value} {u : Value} {m : List Mp} (hn : p.devs.length = n) (h1 : PBox w g p (some ⟨g2, 0, none⟩) n c) (h3 : OwnDevs w base (.slice (some ⟨g2, 0, none⟩) n c) p.devs M) (h4 : Far (.slice (some ⟨g2, 0, none⟩) n c) p.devs M g) (hk : k < n)
    (hgrow : w.grownBy w1 (M k).ownBlock) (hu : OwnMaps w1 base u m) (hat : ∀ x, u.ownBlock = some x → (M k).ownBlock = some x ∨ w.heap.size ≤ x) :
    PBox (w1.setCell ⟨g2, k * 5 + 4, none⟩ u) g (setMaps p k m) (some ⟨g2, 0, none⟩) n c ∧ OwnDevs (w1.setCell ⟨g2, k * 5 + 4, none⟩ u) base (.slice (some ⟨g2, 0, none⟩) n c) (setMaps p k m).devs (fun j => if j = k then u else M j) ∧ Far (.slice (some ⟨g2, 0, none⟩) n c) (setMaps p k m).devs (fun j => if j = k then u else M j) g := by
  subst hn
  have hgg : g ≠ g2 := fun e => h4.1 (by rw [e]; rfl)
  refine ⟨?_, ?_, ?_⟩
  · exact (Below.heap_setCell w1 ⟨g2, k * 5 + 4, none⟩ _ g hgg).trans ((hgrow.block g h1.lt (fun e => h4.2 k hk e.symm)).trans h1)
  · exact h3.put hk hgrow hu hat ⟨rfl, rfl, rfl, rfl⟩
  · refine ⟨h4.1, fun j hj => ?_⟩
    have hl : (setMaps p k m).devs.length = p.devs.length := by show (p.devs.set k _).length = _; rw [List.length_set]
    rw [hl] at hj
    simp only
    by_cases e : j = k
    · rw [if_pos e]
      intro he
      rcases hat g he with h | h
      · exact h4.2 k hk h
      · have := h1.lt; omega
    · rw [if_neg e]; exact h4.2 j hj
theorem len_setMaps (p : Pool) (k : Nat) (m : List Mp) : (setMaps p k m).devs.length = p.devs.length := by show (p.devs.set k _).length = _; rw [List.length_set]
end Go.Proofs.YtcdfbpdejbpgjaaGreat
