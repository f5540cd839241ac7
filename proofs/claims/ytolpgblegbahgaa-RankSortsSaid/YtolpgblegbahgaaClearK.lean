/- clear at a piece of a row of the call's own; three cells stored into such a row; a piece of it as a slice. No condition: for any program. -/
import Derived.Test.YtolpgblegbahgaaMap
import Derived.Laws.IdiomCopy
import Derived.Laws.OwnMore
import Derived.Lib.SliceRun
namespace Go.Proofs.Ytolpgblegbahgaa
open Go Go.RowKit

section
variable {w : World} {base e size g n cap : Nat} {xs : List Value}
theorem own_setCells : ∀ (vs : List Value) (o : Nat) {w : World} {xs : List Value}, w.ownsRow base e size (.slice (some ⟨g, 0, none⟩) n cap) n xs →
    ∃ xs', (w.setCells g o vs).ownsRow base e size (.slice (some ⟨g, 0, none⟩) n cap) n xs' ∧ (∀ j, j < o → xs'[j]? = xs[j]?) ∧ w.grownBy (w.setCells g o vs) (some g) ∧ (w.setCells g o vs).heap.size = w.heap.size := by
  intro vs
  induction vs with
  | nil => intro o w xs h; exact ⟨xs, h, fun _ _ => rfl, World.grownBy.refl w _, rfl⟩
  | cons v vs ih =>
    intro o w xs h
    obtain ⟨h1, h2⟩ := h.stored o v
    obtain ⟨xs', k1, k2, k3, k4⟩ := ih (o + 1) h1
    refine ⟨xs', k1, fun j hj => ?_, grown_trans h2 k3, ?_⟩
    · rw [k2 j (by omega), List.getElem?_set_ne (by omega)]
    · show ((w.setCell ⟨g, o, none⟩ v).setCells g (o + 1) vs).heap.size = _
      exact k4.trans (by simp)
theorem _root_.Go.World.ownsRow.below_ {w w' : World} {base e size k : Nat} {v : Value} {xs : List Value} (h : w.ownsRow base e size v k xs) (hB : Below w.heap.size w w') : w'.ownsRow base e size v k xs := by
  refine ⟨h.1, ?_⟩
  rcases h.2 with h2 | ⟨g', cap', cur, hv, hb, hg, rest⟩
  · exact .inl h2
  · exact .inr ⟨g', cap', cur, hv, hb, (hB.block g' (Array.getElem?_eq_some_iff.1 hg).1).trans hg, rest⟩
/-- The first k elements of a row. -/
theorem own_take {k : Nat} (h : w.ownsRow base e size (.slice (some ⟨g, 0, none⟩) n cap) n xs) (hk : k ≤ n) : w.ownsRow base e size (.slice (some ⟨g, 0, none⟩) k cap) k (xs.take (k * size)) := by
  have hks : k * size ≤ n * size := Nat.mul_le_mul_right _ hk
  refine ⟨by rw [List.length_take, h.1]; omega, ?_⟩
  rcases h.2 with ⟨hv, _⟩ | ⟨g', cap', cur, hv, hb, hg, hnc, hcm, hcs, htake⟩
  · injection hv with e1; cases e1
  · injection hv with e1 e2 e3
    injection e1 with e1
    injection e1 with e1
    subst e1 e3
    exact .inr ⟨g, cap, cur, rfl, hb, hg, by omega, hcm, hcs, by rw [← htake, List.take_take, Nat.min_eq_left hks]⟩
theorem run_clear_own {P : Program} {t : Nat} {z : Value} (h : w.ownsRow base e size (.slice (some ⟨g, 0, none⟩) n cap) n xs) (ht : P.underlying t = some (.slice e)) (hv : ∀ w, (zeroValue e).run P w = .ok z w) (hz : z.cells.size = size) (h1 : ∀ u ∈ z.cells, u.oneCell' = true) {i c : Nat} (hi : i < n) :
    ∃ w', (∀ ty, (Builtin.clear_ #[t] ty #[.slice (some ⟨g, i * size, none⟩) (n - i) c]).run P w = .ok (.tuple #[]) w') ∧ w'.ownsRow base e size (.slice (some ⟨g, 0, none⟩) i cap) i (xs.take (i * size)) ∧ w.grownBy w' (some g) ∧ w'.heap.size = w.heap.size := by
  obtain ⟨vs, hvs⟩ : ∃ vs, vs = (Builtin.zeroCells z.cells (n - i)).toList := ⟨_, rfl⟩
  have hlen : vs.length = (n - i) * size := by rw [hvs]; simp [Builtin.zeroCells, hz]
  have hone : ∀ v ∈ vs, v.oneCell' = true := by
    intro v hv
    rw [hvs] at hv
    simp only [Builtin.zeroCells, Array.toList_map, List.mem_map, Array.mem_toList_iff, Array.mem_range] at hv
    obtain ⟨j, hj, rfl⟩ := hv
    have hp : 0 < z.cells.size := by
      rcases Nat.eq_zero_or_pos z.cells.size with h0 | h0
      · rw [h0] at hj; simp at hj
      · exact h0
    have hlt : j % z.cells.size < z.cells.size := Nat.mod_lt _ hp
    rw [getElem!_pos z.cells _ hlt]
    exact h1 _ (Array.getElem_mem hlt)
  have hsum : i * size + (n - i) * size = n * size := by rw [← Nat.add_mul]; congr 1; omega
  have hst := run_storeCells_cells (P := P) g (i * size) vs 0 w (fun j hj => by
      rw [hlen] at hj
      rw [Nat.add_zero, h.cellAt _ (by omega)]
      rw [List.getElem?_eq_getElem (by rw [h.1]; omega)]; rfl) (fun j _ => by rw [Nat.add_zero]; exact h.frozenAt _) hone
  simp only [Nat.add_zero] at hst
  obtain ⟨xs', k1, k2, k3, k4⟩ := own_setCells vs (i * size) h
  refine ⟨_, ?_, ?_, k3, k4⟩
  · obtain ⟨m, hm⟩ : ∃ m, n - i = m + 1 := ⟨n - i - 1, by omega⟩
    intro ty
    rw [hm] at hvs ⊢
    simp [Builtin.clear_, run_underlying ht, hv, ← hvs, hst]
  · have := own_take k1 (k := i) (by omega)
    have e : xs'.take (i * size) = xs.take (i * size) := by
      apply List.ext_getElem?
      intro j
      rw [List.getElem?_take, List.getElem?_take]
      split
      · rename_i hj; exact k2 j hj
      · rfl
    rwa [e] at this
end
/-- The three cells of element k of a row of the call's own. -/
theorem own3 {w : World} {base e g n cap k : Nat} {l : List Mp} (h : w.ownsRow base e 3 (.slice (some ⟨g, 0, none⟩) n cap) n (flats Mp.enc l)) (hk : k < n) (hn : l.length = n) :
    w.cell? ⟨g, k * 3, none⟩ = some (.int .i64 (nth mp0 l k).v) ∧ w.cell? ⟨g, k * 3 + 1, none⟩ = some (.int .i64 (nth mp0 l k).b) ∧ w.cell? ⟨g, k * 3 + 2, none⟩ = some (.int .i64 (nth mp0 l k).t) := by
  subst hn
  exact ⟨(h.cellAt _ (by omega)).trans (flats_get (d := mp0) Mp.enc_len l k 0 _ hk rfl), (h.cellAt _ (by omega)).trans (flats_get (d := mp0) Mp.enc_len l k 1 _ hk rfl), (h.cellAt _ (by omega)).trans (flats_get (d := mp0) Mp.enc_len l k 2 _ hk rfl)⟩
/-- An element of three cells stored into a row. -/
theorem flats_set3 {l : List Mp} {i : Nat} (x : Mp) (hi : i < l.length) : (((flats Mp.enc l).set (i * 3) (.int .i64 x.v)).set (i * 3 + 1) (.int .i64 x.b)).set (i * 3 + 2) (.int .i64 x.t) = flats Mp.enc (l.set i x) := by
  induction l generalizing i with
  | nil => simp at hi
  | cons m l ih =>
    cases i with
    | zero => rfl
    | succ i =>
      have e : ∀ (a b c : Value) (r : List Value) (u : Value) (j : Nat), (a :: b :: c :: r).set (j + 3) u = a :: b :: c :: r.set j u := fun _ _ _ _ _ _ => rfl
      have e0 : flats Mp.enc (m :: l) = .int .i64 m.v :: .int .i64 m.b :: .int .i64 m.t :: flats Mp.enc l := rfl
      have e1 : flats Mp.enc ((m :: l).set (i + 1) x) = .int .i64 m.v :: .int .i64 m.b :: .int .i64 m.t :: flats Mp.enc (l.set i x) := rfl
      rw [e0, e1, show (i + 1) * 3 = i * 3 + 3 by omega, e, show i * 3 + 3 + 1 = i * 3 + 1 + 3 by omega, e, show i * 3 + 3 + 2 = i * 3 + 2 + 3 by omega, e, ih (by simpa using hi)]
theorem own_set3 {w : World} {base e g n cap k : Nat} {l : List Mp} (h : w.ownsRow base e 3 (.slice (some ⟨g, 0, none⟩) n cap) n (flats Mp.enc l)) (x : Mp) (hk : k < n) (hn : l.length = n) :
    (((w.setCell ⟨g, k * 3, none⟩ (.int .i64 x.v)).setCell ⟨g, k * 3 + 1, none⟩ (.int .i64 x.b)).setCell ⟨g, k * 3 + 2, none⟩ (.int .i64 x.t)).ownsRow base e 3 (.slice (some ⟨g, 0, none⟩) n cap) n (flats Mp.enc (l.set k x)) := by
  rw [← flats_set3 x (by omega)]
  exact (((h.stored _ _).1.stored _ _).1.stored _ _).1
theorem flats_take3 (l : List Mp) (k : Nat) : (flats Mp.enc l).take (k * 3) = flats Mp.enc (l.take k) := by
  induction l generalizing k with
  | nil => simp [flats]
  | cons m l ih =>
    cases k with
    | zero => simp [flats]
    | succ k =>
      have e0 : flats Mp.enc (m :: l) = .int .i64 m.v :: .int .i64 m.b :: .int .i64 m.t :: flats Mp.enc l := rfl
      have e1 : flats Mp.enc ((m :: l).take (k + 1)) = .int .i64 m.v :: .int .i64 m.b :: .int .i64 m.t :: flats Mp.enc (l.take k) := rfl
      rw [e0, e1, ← ih, show (k + 1) * 3 = k * 3 + 1 + 1 + 1 by omega]
      rfl
end Go.Proofs.Ytolpgblegbahgaa
