/- One mapping more behind a device's mappings, in a pool of the call's own. No condition. -/
import Derived.Test.YtooffkhdanimbaaWCopyO
import Derived.Test.YtooffkhdanimbaaSizeG
namespace Go.Proofs.Ytooffkhdanimbaa
open Go.RowKit

theorem own_n {w : World} {base e size n k c : Nat} {A : Option Addr} {xs : List Value} (h : w.ownsRow base e size (.slice A n c) k xs) : n = k := by
  rcases h.2 with ⟨hv, h0⟩ | ⟨g, cap, cur, hv, _⟩
  · injection hv with _ e _; omega
  · injection hv
theorem nthG_set {α : Type} (d : α) (l : List α) (r j : Nat) (x : α) (hr : r < l.length) : nth d (l.set r x) j = if j = r then x else nth d l j := by
  unfold nth
  simp only [List.getD, List.getElem?_set]
  by_cases h : j = r
  · subst h; simp [hr]
  · rw [if_neg (fun e => h e.symm), if_neg h]
theorem OwnDevs.store {w : World} {base g n c r : Nat} {u : Value} {l : List Dev} {M : Nat → Value} {d : Dev} (h : OwnDevs w base (.slice (some ⟨g, 0, none⟩) n c) l M) (hr : r < l.length) (hd : d.id = (nth dev0 l r).id ∧ d.tx = (nth dev0 l r).tx ∧ d.made = (nth dev0 l r).made ∧ d.snapped = (nth dev0 l r).snapped)
    (hown : OwnMaps w base u d.maps) (hne : ∀ g', u.ownBlock = some g' → g' ≠ g) (hap : ∀ i, i < l.length → i ≠ r → ∀ g', u.ownBlock = some g' → some g' ≠ (M i).ownBlock) :
    OwnDevs (w.setCell ⟨g, r * 5 + 4, none⟩ u) base (.slice (some ⟨g, 0, none⟩) n c) (l.set r d) (fun j => if j = r then u else M j) := by
  obtain ⟨xs, hrow, hc, ha⟩ := h
  obtain rfl : n = l.length := own_n hrow
  have hx := own_len hrow
  have hkeep : ∀ {v1 : Value} {l1 : List Mp}, OwnMaps w base v1 l1 → (∀ g', v1.ownBlock = some g' → g' ≠ g) → OwnMaps (w.setCell ⟨g, r * 5 + 4, none⟩ u) base v1 l1 := by
    intro v1 l1 ho hne'
    exact ho.kept (grownBy_set w ⟨g, r * 5 + 4, none⟩ u) (.inr (fun e => hne' g e rfl))
  have hn : ∀ j, nth dev0 (l.set r d) j = if j = r then d else nth dev0 l j := fun j => nthG_set dev0 l r j d hr
  refine ⟨xs.set (r * 5 + 4) u, ?_, fun j hj => ?_, fun i j hi hj hij g' hg' => ?_⟩
  · rw [List.length_set]
    exact (hrow.stored _ _).1
  · rw [List.length_set] at hj
    obtain ⟨⟨e0, e1, e2, e3, e4⟩, hm, hb⟩ := hc j hj
    rw [hn]
    simp only
    by_cases e : j = r
    · subst e
      rw [if_pos rfl, if_pos rfl]
      refine ⟨⟨?_, ?_, ?_, ?_, ?_⟩, hkeep hown hne, fun g' hg' he => hne g' hg' (by simpa [Value.ownBlock] using he)⟩
      · rw [List.getElem?_set_ne (by omega), hd.1]; exact e0
      · rw [List.getElem?_set_ne (by omega), hd.2.1]; exact e1
      · rw [List.getElem?_set_ne (by omega), hd.2.2.1]; exact e2
      · rw [List.getElem?_set_ne (by omega), hd.2.2.2]; exact e3
      · rw [List.getElem?_set_self (by omega)]
    · rw [if_neg e, if_neg e]
      refine ⟨⟨?_, ?_, ?_, ?_, ?_⟩, hkeep hm (fun g' hg' he => hb g' hg' (by rw [he]; rfl)), hb⟩
      · rw [List.getElem?_set_ne (by omega)]; exact e0
      · rw [List.getElem?_set_ne (by omega)]; exact e1
      · rw [List.getElem?_set_ne (by omega)]; exact e2
      · rw [List.getElem?_set_ne (by omega)]; exact e3
      · rw [List.getElem?_set_ne (by omega)]; exact e4
  · rw [List.length_set] at hi hj
    simp only at hg' ⊢
    by_cases ei : i = r
    · rw [if_pos ei]
      rw [if_neg (by omega)] at hg'
      intro he
      exact hap j hj (by omega) g' he.symm hg'.symm
    · rw [if_neg ei]
      by_cases ej : j = r
      · rw [if_pos ej] at hg'
        exact hap i hi ei g' hg'
      · rw [if_neg ej] at hg'
        exact ha i j hi hj hij g' hg'
/-- The row of device r grew: the others are as they were. -/
theorem OwnDevs.grown {w w1 : World} {base g n c r gg k cap : Nat} {l : List Dev} {M : Nat → Value} {m : Mp} (h : OwnDevs w base (.slice (some ⟨g, 0, none⟩) n c) l M) (hr : r < l.length) (hgrow : w.grownBy w1 (M r).ownBlock) (hat : (M r).ownBlock = some gg ∨ w.heap.size ≤ gg)
    (hk : k = (nth dev0 l r).maps.length + 1) (hown : w1.ownsRow base 38 3 (.slice (some ⟨gg, 0, none⟩) k cap) k (flats Mp.enc (nth dev0 l r).maps ++ m.enc)) :
    OwnDevs (w1.setCell ⟨g, r * 5 + 4, none⟩ (.slice (some ⟨gg, 0, none⟩) k cap)) base (.slice (some ⟨g, 0, none⟩) n c) (l.set r ((nth dev0 l r).plus m)) (fun j => if j = r then .slice (some ⟨gg, 0, none⟩) k cap else M j) := by
  obtain ⟨xs, hrow, hc, ha⟩ := h
  obtain rfl : n = l.length := own_n hrow
  have hg : g < w.heap.size := (hrow.lt g rfl).2
  have hrow1 := hrow.kept hgrow (.inr (fun e => (hc r hr).2.2 g e.symm rfl))
  -- the others are as they were, but the row of device r itself; it is shown anew below
  have h1 : ∀ j, j < l.length → j ≠ r → OwnMaps w1 base (M j) (nth dev0 l j).maps := fun j hj hjr => (hc j hj).2.1.kept hgrow (by
    cases hb : (M j).ownBlock with
    | none => exact .inl rfl
    | some g' => exact .inr (fun e => ha j r hj hr hjr g' (by rw [← e]) (by rw [hb])))
  have hx := own_len hrow
  have hn : ∀ j, nth dev0 (l.set r ((nth dev0 l r).plus m)) j = if j = r then (nth dev0 l r).plus m else nth dev0 l j := fun j => nthG_set dev0 l r j _ hr
  have hgg : gg ≠ g := by
    rcases hat with h | h
    · intro e; exact (hc r hr).2.2 gg h (by rw [e]; rfl)
    · omega
  have hapn : ∀ i, i < l.length → i ≠ r → some gg ≠ (M i).ownBlock := by
    intro i hi hir
    rcases hat with h | h
    · exact ha i r hi hr hir gg h
    · intro e; have := ((hc i hi).2.1.lt gg e.symm).2; omega
  have hkeep : ∀ {v1 : Value} {l1 : List Mp}, OwnMaps w1 base v1 l1 → (∀ g', v1.ownBlock = some g' → g' ≠ g) → OwnMaps (w1.setCell ⟨g, r * 5 + 4, none⟩ (.slice (some ⟨gg, 0, none⟩) k cap)) base v1 l1 := by
    intro v1 l1 ho hne'
    exact ho.kept (grownBy_set w1 ⟨g, r * 5 + 4, none⟩ _) (.inr (fun e => hne' g e rfl))
  refine ⟨xs.set (r * 5 + 4) (.slice (some ⟨gg, 0, none⟩) k cap), ?_, fun j hj => ?_, fun i j hi hj hij g' hg' => ?_⟩
  · rw [List.length_set]
    exact (hrow1.stored _ _).1
  · rw [List.length_set] at hj
    obtain ⟨⟨e0, e1, e2, e3, e4⟩, hm, hb⟩ := hc j hj
    rw [hn]
    simp only
    by_cases e : j = r
    · subst e
      rw [if_pos rfl, if_pos rfl]
      refine ⟨⟨?_, ?_, ?_, ?_, ?_⟩, ?_, fun g' hg' he => ?_⟩
      · rw [List.getElem?_set_ne (by omega)]; exact e0
      · rw [List.getElem?_set_ne (by omega)]; exact e1
      · rw [List.getElem?_set_ne (by omega)]; exact e2
      · rw [List.getElem?_set_ne (by omega)]; exact e3
      · rw [List.getElem?_set_self (by omega)]
      · have ho : OwnMaps w1 base (.slice (some ⟨gg, 0, none⟩) k cap) ((nth dev0 l j).plus m).maps := by
          show w1.ownsRow base _ 3 _ ((nth dev0 l j).maps ++ [m]).length (flats Mp.enc ((nth dev0 l j).maps ++ [m]))
          rw [flats_append, flats_one, List.length_append, List.length_singleton, ← hk]
          exact hown
        exact hkeep ho (fun g' hg' => by simp [Value.ownBlock] at hg'; omega)
      · simp [Value.ownBlock] at hg' he
        omega
    · rw [if_neg e, if_neg e]
      refine ⟨⟨?_, ?_, ?_, ?_, ?_⟩, hkeep (h1 j hj e) (fun g' hg' he => hb g' hg' (by rw [he]; rfl)), hb⟩
      · rw [List.getElem?_set_ne (by omega)]; exact e0
      · rw [List.getElem?_set_ne (by omega)]; exact e1
      · rw [List.getElem?_set_ne (by omega)]; exact e2
      · rw [List.getElem?_set_ne (by omega)]; exact e3
      · rw [List.getElem?_set_ne (by omega)]; exact e4
  · rw [List.length_set] at hi hj
    simp only at hg' ⊢
    by_cases ei : i = r
    · rw [if_pos ei]
      rw [if_neg (by omega)] at hg'
      intro he
      have he2 : g' = gg := by simpa [Value.ownBlock] using he
      exact hapn j hj (by omega) (by rw [hg', he2])
    · rw [if_neg ei]
      by_cases ej : j = r
      · rw [if_pos ej] at hg'
        have he2 : gg = g' := by simpa [Value.ownBlock] using hg'
        rw [← he2]
        exact hapn i hi ei
      · rw [if_neg ej] at hg'
        exact ha i j hi hj hij g' hg'
/-- The cells that the walk reads. -/
theorem OwnDevs.cells {w : World} {base : Nat} {v : Value} {l : List Dev} {M : Nat → Value} (h : OwnDevs w base v l M) (hl : 0 < l.length) :
    ∃ g c, v = .slice (some ⟨g, 0, none⟩) l.length c ∧ base ≤ g ∧ g < w.heap.size ∧ l.length ≤ c ∧ ∀ r, r < l.length → w.cell? ⟨g, r * 5 + 4, none⟩ = some (M r) ∧ (∀ o, w.frozen? ⟨g, o, none⟩ = false) ∧ ∃ A cm, M r = .slice A (nth dev0 l r).maps.length cm ∧ (nth dev0 l r).maps.length ≤ cm := by
  obtain ⟨xs, hrow, hc, ha⟩ := h
  obtain ⟨g, c, rfl, hb, hg, hnc⟩ := own_form hrow hl
  refine ⟨g, c, rfl, hb, hg, hnc, fun r hr => ⟨?_, fun o => hrow.frozenAt o, ?_⟩⟩
  · rw [hrow.cellAt (r * 5 + 4) (by omega)]
    exact (hc r hr).1.2.2.2.2
  · exact own_form0 (hc r hr).2.1
/-- A row grew behind a new block and a draw; then the grown slice was stored. -/
theorem grown_all {w w1 : World} {o : Obj} {base g n c r gg cap cm : Nat} {A : Option Addr} {l : List Dev} {M : Nat → Value} {m : Mp} (h : OwnDevs w base (.slice (some ⟨g, 0, none⟩) n c) l M) (hM : M r = .slice A (nth dev0 l r).maps.length cm) (hr : r < l.length) (hgrow : (w.alloc o).drew.grownBy w1 (Value.slice A (nth dev0 l r).maps.length cm).ownBlock) (hat : (Value.slice A (nth dev0 l r).maps.length cm).ownBlock = some gg ∨ gg = w.heap.size + 1)
    (hown : w1.ownsRow base 38 3 (.slice (some ⟨gg, 0, none⟩) ((nth dev0 l r).maps.length + 1) cap) ((nth dev0 l r).maps.length + 1) (flats Mp.enc (nth dev0 l r).maps ++ m.enc)) :
    OwnDevs (w1.setCell ⟨g, r * 5 + 4, none⟩ (.slice (some ⟨gg, 0, none⟩) ((nth dev0 l r).maps.length + 1) cap)) base (.slice (some ⟨g, 0, none⟩) n c) (l.set r ((nth dev0 l r).plus m)) (fun j => if j = r then .slice (some ⟨gg, 0, none⟩) ((nth dev0 l r).maps.length + 1) cap else M j) := by
  have h' : OwnDevs (w.alloc o).drew base (.slice (some ⟨g, 0, none⟩) n c) l M := h.keep (((Below.refl w.heap.size w).alloc (Nat.le_refl _) o).drew) (Nat.le_refl _)
  refine h'.grown hr (by rw [hM]; exact hgrow) ?_ rfl hown
  rw [hM]
  rcases hat with h1 | h1
  · exact .inl h1
  · exact .inr (by rw [h1]; simp)
theorem grown_below {w0 w w1 : World} {o : Obj} {B g i : Nat} {row : Option Nat} {u : Value} (hB : Below B w0 w) (hg : B ≤ g) (hgrow : (w.alloc o).drew.grownBy w1 row) (hrow : ∀ i, row = some i → B ≤ i) (hw : B ≤ w.heap.size := by omega) : Below B w0 (w1.setCell ⟨g, i, none⟩ u) :=
  (((hB.alloc hw o).drew).grown hgrow (by simp; omega) hrow).setCell (p := ⟨g, i, none⟩) hg u
theorem grown_box {w w1 : World} {o : Obj} {b g i n c : Nat} {row : Option Nat} {u : Value} {p : Pool} {A : Option Addr} (hb : PBox w b p A n c) (hgrow : (w.alloc o).drew.grownBy w1 row) (hne : row ≠ some b) (hg : ¬ b = g) : PBox (w1.setCell ⟨g, i, none⟩ u) b p A n c :=
  (Below.heap_setCell w1 ⟨g, i, none⟩ u b hg).trans ((hgrow.block b (by have := hb.lt; simp; omega) (Ne.symm hne)).trans ((Below.heap_alloc w o b hb.lt).trans hb))
theorem lastV_bound {p : Pool} {r : Nat} (h : poolChk p = 0) (hr : r < p.devs.length) : -1 ≤ lastV (nth dev0 p.devs r).maps (nth dev0 p.devs r).maps.length ∧ lastV (nth dev0 p.devs r).maps (nth dev0 p.devs r).maps.length ≤ 281474976710655 := by
  obtain ⟨q1, q2, q3⟩ := poolChk_parts h
  have hmc := (devsChk_ok _ _ q3 _ (nth_mem dev0 p.devs r hr)).1
  by_cases h0 : (nth dev0 p.devs r).maps.length = 0
  · rw [h0, lastV_zero]; omega
  · rw [lastV_pos _ (by omega)]
    have := mapChkFrom_ok _ _ hmc _ (nth_mem mp0 (nth dev0 p.devs r).maps ((nth dev0 p.devs r).maps.length - 1) (by omega))
    simp only [mapB, Bool.and_eq_true] at this
    have := inB_iff.1 this.1
    omega
theorem own_pool {w : World} {base g n c r : Nat} {p : Pool} {m : Mp} {M : Nat → Value} (h : OwnDevs w base (.slice (some ⟨g, 0, none⟩) n c) (p.plus r m).devs M) : IsPool w (fun b => base ≤ b ∧ b < w.heap.size) (.agg #[.int .i64 p.tx, .int .i64 p.time, .int .i64 p.unit, .int .i64 p.data, .slice (some ⟨g, 0, none⟩) n c]) (p.plus r m) := by
  obtain ⟨A, c', hv, hc, hr⟩ := h.isl (S := fun b => base ≤ b ∧ b < w.heap.size) (fun b h1 h2 => ⟨h1, h2⟩)
  exact ⟨A, c', by rw [hv]; rfl, hc, hr⟩
theorem plus_pok {p : Pool} {r : Nat} {m : Mp} (h : p.ok) (hr : r < p.devs.length) (hm : m.ok) (hl : (nth dev0 p.devs r).maps.length ≤ 16384) : (p.plus r m).ok := by
  obtain ⟨h1, h2, h3, h4, h5, h6⟩ := h
  refine ⟨h1, h2, h3, h4, fun d hd => ?_, by show (p.devs.set r _).length ≤ _; rw [List.length_set]; exact h6⟩
  have hd' : d ∈ p.devs.set r ((nth dev0 p.devs r).plus m) := hd
  rcases List.mem_or_eq_of_mem_set hd' with hd | rfl
  · exact h5 d hd
  · obtain ⟨a1, a2, a3, a4, a5, a6⟩ := h5 _ (nth_mem dev0 p.devs r hr)
    refine ⟨a1, a2, a3, a4, fun x hx => ?_, by show ((nth dev0 p.devs r).maps ++ [m]).length ≤ _; rw [List.length_append, List.length_singleton]; omega⟩
    rcases List.mem_append.1 (show x ∈ (nth dev0 p.devs r).maps ++ [m] from hx) with hx | hx
    · exact a5 x hx
    · rw [List.mem_singleton.1 hx]; exact hm
end Go.Proofs.Ytooffkhdanimbaa
