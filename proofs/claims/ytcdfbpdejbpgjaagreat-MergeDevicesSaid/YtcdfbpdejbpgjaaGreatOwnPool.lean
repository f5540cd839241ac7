/- A pool in memory of the call's own, behind a pointer: its numbers in a block, its devices in a row, each one's mappings in a row. No condition. -/
import Derived.Test.YtcdfbpdejbpgjaaGreatWCopyO
import Derived.Test.YtcdfbpdejbpgjaaGreatInsL
import Derived.Test.YtcdfbpdejbpgjaaGreatWDelD
namespace Go.Proofs.YtcdfbpdejbpgjaaGreat
open Go.RowKit

theorem own_n {w : World} {base e size n k c : Nat} {A : Option Addr} {xs : List Value} (h : w.ownsRow base e size (.slice A n c) k xs) : n = k := by
  rcases h.2 with ⟨hv, h0⟩ | ⟨g, cap, cur, hv, _⟩
  · injection hv with _ e _; omega
  · injection hv
theorem nthG_set {α : Type} (d : α) (l : List α) (r j : Nat) (x : α) (hr : r < l.length) : nth d (l.set r x) j = if j = r then x else nth d l j := by
  unfold nth
  simp only [List.getD, List.getElem?_set]
  by_cases h : j = r
  · subst h; simp [hr]
  · rw [if_neg (fun e => h e.symm), if_neg h]
/-- No block of these devices is x. -/
def Far (v : Value) (l : List Dev) (M : Nat → Value) (x : Nat) : Prop := v.ownBlock ≠ some x ∧ ∀ j, j < l.length → (M j).ownBlock ≠ some x
theorem OwnDevs.kept {w w' : World} {base : Nat} {v : Value} {l : List Dev} {M : Nat → Value} {x : Nat} (h : OwnDevs w base v l M) (hg : w.grownBy w' (some x)) (hf : Far v l M x) : OwnDevs w' base v l M := by
  obtain ⟨xs, hrow, hc, hap⟩ := h
  exact ⟨xs, hrow.kept hg (.inr hf.1), fun j hj => ⟨(hc j hj).1, (hc j hj).2.1.kept hg (.inr (hf.2 j hj)), (hc j hj).2.2⟩, hap⟩
theorem OwnDevs.lt {w : World} {base : Nat} {v : Value} {l : List Dev} {M : Nat → Value} (h : OwnDevs w base v l M) : (∀ x, v.ownBlock = some x → base ≤ x ∧ x < w.heap.size) ∧ ∀ j, j < l.length → ∀ x, (M j).ownBlock = some x → base ≤ x ∧ x < w.heap.size := by
  obtain ⟨xs, hrow, hc, hap⟩ := h
  exact ⟨fun x hx => hrow.lt x hx, fun j hj x hx => (hc j hj).2.1.lt x hx⟩
theorem OwnDevs.far_new {w : World} {base : Nat} {v : Value} {l : List Dev} {M : Nat → Value} {x : Nat} (h : OwnDevs w base v l M) (hx : w.heap.size ≤ x) : Far v l M x :=
  ⟨fun e => by have := (h.lt.1 x e).2; omega, fun j hj e => by have := (h.lt.2 j hj x e).2; omega⟩
/-- A device's five cells. -/
def devCs (d : Dev) (u : Value) : List Value := [.int .i64 d.id, .int .i64 d.tx, .int .i64 d.made, .int .i64 d.snapped, u]
theorem OwnDevs.ins {w w' : World} {base g' c' i n : Nat} {v u : Value} {l : List Dev} {M : Nat → Value} {xs : List Value} {d : Dev} (hrow0 : w.ownsRow base 36 5 v l.length xs)
    (hc : ∀ j, j < l.length → DevCells xs j (nth dev0 l j) (M j) ∧ OwnMaps w base (M j) (nth dev0 l j).maps ∧ (∀ g, (M j).ownBlock = some g → some g ≠ v.ownBlock))
    (hap : ∀ i j, i < l.length → j < l.length → i ≠ j → ∀ g, (M j).ownBlock = some g → some g ≠ (M i).ownBlock)
    (hi : i ≤ l.length) (hgrow : w.grownBy w' v.ownBlock) (hat : v.ownBlock = some g' ∨ g' = w.heap.size) (hn : n = l.length + 1)
    (hrow : w'.ownsRow base 36 5 (.slice (some ⟨g', 0, none⟩) n c') n (insC xs (i * 5) (devCs d u)))
    (hu : OwnMaps w base u d.maps) (huv : ∀ x, u.ownBlock = some x → some x ≠ v.ownBlock) (huM : ∀ j, j < l.length → ∀ x, u.ownBlock = some x → some x ≠ (M j).ownBlock) :
    OwnDevs w' base (.slice (some ⟨g', 0, none⟩) n c') (insAt l i d) (fun j => if j < i then M j else if j = i then u else M (j - 1)) := by
  have hx := own_len hrow0
  have hlen := insAt_length l i d hi
  have hM : ∀ j, j < l.length + 1 → OwnMaps w base (if j < i then M j else if j = i then u else M (j - 1)) (nth dev0 (insAt l i d) j).maps ∧ ∀ x, (if j < i then M j else if j = i then u else M (j - 1)).ownBlock = some x → some x ≠ v.ownBlock := by
    intro j hj
    rw [nth_insAt dev0 l i j d hi]
    by_cases h1 : j < i
    · simp only [if_pos h1]
      exact ⟨(hc j (by omega)).2.1, (hc j (by omega)).2.2⟩
    · simp only [if_neg h1]
      by_cases h2 : j = i
      · simp only [if_pos h2]
        exact ⟨hu, huv⟩
      · simp only [if_neg h2]
        exact ⟨(hc (j - 1) (by omega)).2.1, (hc (j - 1) (by omega)).2.2⟩
  refine ⟨insC xs (i * 5) (devCs d u), by rw [hlen, ← hn]; exact hrow, fun j hj => ?_, fun a b ha hb hab x hxb => ?_⟩
  · rw [hlen] at hj
    obtain ⟨m1, m2⟩ := hM j hj
    refine ⟨?_, m1.kept hgrow (by
      cases hb : (if j < i then M j else if j = i then u else M (j - 1)).ownBlock with
      | none => exact .inl rfl
      | some x => exact .inr (m2 x hb)), fun x hx' he => ?_⟩
    · have gt : ∀ r, r < 5 → (insC xs (i * 5) (devCs d u))[j * 5 + r]? = if j < i then xs[j * 5 + r]? else if j = i then (devCs d u)[r]? else xs[(j - 1) * 5 + r]? := fun r hr => insC_get hx rfl hi hr
      have g0 := gt 0 (by omega)
      rw [nth_insAt dev0 l i j d hi]
      unfold DevCells
      rw [gt 1 (by omega), gt 2 (by omega), gt 3 (by omega), gt 4 (by omega)]
      rw [Nat.add_zero] at g0
      rw [g0]
      by_cases h1 : j < i
      · simp only [if_pos h1]
        exact (hc j (by omega)).1
      · simp only [if_neg h1]
        by_cases h2 : j = i
        · simp only [if_pos h2]
          exact ⟨rfl, rfl, rfl, rfl, rfl⟩
        · simp only [if_neg h2]
          exact (hc (j - 1) (by omega)).1
    · have e : x = g' := by simpa [Value.ownBlock] using he
      rcases hat with h | h
      · exact m2 x hx' (by rw [h, e])
      · have := (m1.lt x hx').2
        omega
  · rw [hlen] at ha hb
    simp only at hxb ⊢
    -- the old index of a place
    by_cases a1 : a < i
    · rw [if_pos a1]
      by_cases b1 : b < i
      · rw [if_pos b1] at hxb; exact hap a b (by omega) (by omega) hab x hxb
      · rw [if_neg b1] at hxb
        by_cases b2 : b = i
        · rw [if_pos b2] at hxb; exact huM a (by omega) x hxb
        · rw [if_neg b2] at hxb; exact hap a (b - 1) (by omega) (by omega) (by omega) x hxb
    · rw [if_neg a1]
      by_cases a2 : a = i
      · rw [if_pos a2]
        intro he
        by_cases b1 : b < i
        · rw [if_pos b1] at hxb; exact huM b (by omega) x he.symm hxb.symm
        · rw [if_neg b1, if_neg (by omega)] at hxb; exact huM (b - 1) (by omega) x he.symm hxb.symm
      · rw [if_neg a2]
        by_cases b1 : b < i
        · rw [if_pos b1] at hxb; exact hap (a - 1) b (by omega) (by omega) (by omega) x hxb
        · rw [if_neg b1] at hxb
          by_cases b2 : b = i
          · rw [if_pos b2] at hxb; exact huM (a - 1) (by omega) x hxb
          · rw [if_neg b2] at hxb; exact hap (a - 1) (b - 1) (by omega) (by omega) (by omega) x hxb
theorem OwnDevs.del {w w' : World} {base g' c' i n m : Nat} {l : List Dev} {M : Nat → Value} {xs : List Value} (hrow0 : w.ownsRow base 36 5 (.slice (some ⟨g', 0, none⟩) m c') l.length xs)
    (hc : ∀ j, j < l.length → DevCells xs j (nth dev0 l j) (M j) ∧ OwnMaps w base (M j) (nth dev0 l j).maps ∧ (∀ g, (M j).ownBlock = some g → some g ≠ (Value.slice (some ⟨g', 0, none⟩) m c').ownBlock))
    (hap : ∀ i j, i < l.length → j < l.length → i ≠ j → ∀ g, (M j).ownBlock = some g → some g ≠ (M i).ownBlock)
    (hi : i < l.length) (hgrow : w.grownBy w' (some g')) (hn : n + 1 = l.length)
    (hrow : w'.ownsRow base 36 5 (.slice (some ⟨g', 0, none⟩) n c') n (delC xs (i * 5) 5)) :
    OwnDevs w' base (.slice (some ⟨g', 0, none⟩) n c') (delAt l i) (fun j => if j < i then M j else M (j + 1)) := by
  have hx := own_len hrow0
  have hlen := delAt_length l i hi
  refine ⟨delC xs (i * 5) 5, by rw [show (delAt l i).length = n by omega]; exact hrow, fun j hj => ?_, fun a b ha hb hab x hxb => ?_⟩
  · have gt : ∀ r, r < 5 → (delC xs (i * 5) 5)[j * 5 + r]? = if j < i then xs[j * 5 + r]? else xs[(j + 1) * 5 + r]? := fun r hr => delC_get hx hi hr
    have g0 := gt 0 (by omega)
    rw [Nat.add_zero] at g0
    rw [nth_delAt dev0 l i j hi]
    unfold DevCells
    rw [gt 1 (by omega), gt 2 (by omega), gt 3 (by omega), gt 4 (by omega), g0]
    by_cases h1 : j < i
    · simp only [if_pos h1]
      obtain ⟨q1, q2, q3⟩ := hc j (by omega)
      exact ⟨q1, q2.kept hgrow (by
        cases hb : (M j).ownBlock with
        | none => exact .inl rfl
        | some x => exact .inr (q3 x hb)), q3⟩
    · simp only [if_neg h1]
      obtain ⟨q1, q2, q3⟩ := hc (j + 1) (by omega)
      exact ⟨q1, q2.kept hgrow (by
        cases hb : (M (j + 1)).ownBlock with
        | none => exact .inl rfl
        | some x => exact .inr (q3 x hb)), q3⟩
  · simp only at hxb ⊢
    by_cases a1 : a < i
    · rw [if_pos a1]
      by_cases b1 : b < i
      · rw [if_pos b1] at hxb; exact hap a b (by omega) (by omega) hab x hxb
      · rw [if_neg b1] at hxb; exact hap a (b + 1) (by omega) (by omega) (by omega) x hxb
    · rw [if_neg a1]
      by_cases b1 : b < i
      · rw [if_pos b1] at hxb; exact hap (a + 1) b (by omega) (by omega) (by omega) x hxb
      · rw [if_neg b1] at hxb; exact hap (a + 1) (b + 1) (by omega) (by omega) (by omega) x hxb
/-- A pool of the call's own behind a pointer to block g. -/
def OwnP (w : World) (base g : Nat) (p : Pool) : Prop :=
  ∃ A c M, PBox w g p A p.devs.length c ∧ base ≤ g ∧ OwnDevs w base (.slice A p.devs.length c) p.devs M ∧ Far (.slice A p.devs.length c) p.devs M g
theorem OwnDevs.below {w w' : World} {base : Nat} {v : Value} {l : List Dev} {M : Nat → Value} (h : OwnDevs w base v l M) (hB : Below w.heap.size w w') : OwnDevs w' base v l M := h.keep hB (Nat.le_refl _)
theorem OwnP.below {w w' : World} {base g : Nat} {p : Pool} (h : OwnP w base g p) (hB : Below w.heap.size w w') : OwnP w' base g p := by
  obtain ⟨A, c, M, h1, h2, h3, h4⟩ := h
  exact ⟨A, c, M, h1.below hB h1.lt, h2, h3.below hB, h4⟩
theorem OwnP.isp {w : World} {base : Nat} {p : Pool} {A : Option Addr} {c : Nat} {M : Nat → Value} (h : OwnDevs w base (.slice A p.devs.length c) p.devs M) : IsPool w (Btw base w.heap.size) (.agg #[.int .i64 p.tx, .int .i64 p.time, .int .i64 p.unit, .int .i64 p.data, .slice A p.devs.length c]) p := by
  obtain ⟨A', c', hv, hc, hr⟩ := h.isl (S := Btw base w.heap.size) (fun b h1 h2 => ⟨h1, h2⟩)
  exact ⟨A', c', by rw [hv], hc, hr⟩
theorem PBox.free {w : World} {b : Nat} {p : Pool} {A : Option Addr} {n c : Nat} (h : PBox w b p A n c) (i : Nat) : w.frozen? ⟨b, i, none⟩ = false := by unfold PBox at h; simp [World.frozen?, h]
/-- One of the block's numbers is stored. -/
theorem OwnP.stored {w : World} {base g : Nat} {p q : Pool} {i : Nat} {u : Value} {A : Option Addr} {c : Nat} {M : Nat → Value} (h1 : PBox w g p A p.devs.length c) (h3 : OwnDevs w base (.slice A p.devs.length c) p.devs M) (h4 : Far (.slice A p.devs.length c) p.devs M g)
    (hq : q.devs = p.devs) (he : (#[.int .i64 p.tx, .int .i64 p.time, .int .i64 p.unit, .int .i64 p.data, .slice A p.devs.length c] : Array Value).setIfInBounds i u = #[.int .i64 q.tx, .int .i64 q.time, .int .i64 q.unit, .int .i64 q.data, .slice A p.devs.length c]) :
    PBox (w.setCell ⟨g, i, none⟩ u) g q A q.devs.length c ∧ OwnDevs (w.setCell ⟨g, i, none⟩ u) base (.slice A q.devs.length c) q.devs M ∧ Far (.slice A q.devs.length c) q.devs M g := by
  refine ⟨?_, ?_, ?_⟩
  · unfold PBox at h1 ⊢
    rw [hq, ← he]
    simp [World.setCell, Array.getElem?_modify, h1]
  · rw [hq]; exact h3.kept (grownBy_set w ⟨g, i, none⟩ u) h4
  · rw [hq]; exact h4
end Go.Proofs.YtcdfbpdejbpgjaaGreat
