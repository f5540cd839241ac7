/- Rows of any elements as one list of cells, and the append of a whole row. No condition: for any program. -/
import Derived.Test.YtolpgblegbahgaaBase
import Derived.Deep.Slices
namespace Go.Proofs.Ytolpgblegbahgaa
open Go.RowKit

/-- The cells xs are those of the elements l. -/
def CellsOf {α : Type} (R : Rel α) (size : Nat) (d : α) (w : World) (S : Nat → Prop) (l : List α) (xs : List Value) : Prop :=
  xs.length = l.length * size ∧ ∀ k, k < l.length → ∃ cs, cs.length = size ∧ R w S cs (nth d l k) ∧ ∀ j, j < size → xs[k * size + j]? = cs[j]?
section
variable {α : Type} {R : Rel α} {size : Nat} {d : α} {w w' : World} {S S' : Nat → Prop} {l : List α} {xs : List Value}
theorem CellsOf.keep (hR : Stable R) (h : CellsOf R size d w S l xs) (hs : ∀ b, S b → S' b) (hk : Keep S w w') : CellsOf R size d w' S' l xs :=
  ⟨h.1, fun k hk' => by
    obtain ⟨cs, h1, h2, h3⟩ := h.2 k hk'
    exact ⟨cs, h1, hR _ _ _ _ _ _ hs hk h2, h3⟩⟩
theorem CellsOf.one (h : CellsOf R size d w S l xs) (hone : ∀ (w : World) (S : Nat → Prop) cs x, R w S cs x → ∀ u ∈ cs, u.oneCell' = true) : ∀ u ∈ xs, u.oneCell' = true := by
  intro u hu
  obtain ⟨i, hi, rfl⟩ := List.getElem_of_mem hu
  have hlen := h.1
  have hsz : 0 < size := by
    rcases Nat.eq_zero_or_pos size with h0 | h0
    · subst h0; omega
    · exact h0
  have hk : i / size < l.length := by rw [Nat.div_lt_iff_lt_mul hsz]; omega
  obtain ⟨cs, h1, h2, h3⟩ := h.2 _ hk
  have h4 := h3 (i % size) (Nat.mod_lt _ hsz)
  rw [Nat.div_add_mod' i size, List.getElem?_eq_getElem hi] at h4
  exact hone _ _ cs _ h2 _ (List.mem_of_getElem? h4.symm)
theorem row_cellsOf {b off : Nat} (h : RowOf R size d w S (some ⟨b, off, none⟩) l) : ∃ xs, CellsOf R size d w S l xs ∧ ∀ j u, xs[j]? = some u → w.cell? ⟨b, off + j, none⟩ = some u := by
  by_cases hl : 0 < l.length
  · obtain ⟨b', off', e, hb, hc⟩ := h hl
    injection e with e
    injection e with e1 e2
    subst e1 e2
    obtain ⟨css, hcs⟩ := Go.Deep.choose_lt hc
    refine ⟨(List.range (l.length * size)).map fun j => (css (j / size)).getD (j % size) undef, ⟨by simp, fun k hk => ?_⟩, fun j u hu => ?_⟩
    · obtain ⟨h1, h2, h3⟩ := hcs k hk
      refine ⟨css k, h1, h2, fun j hj => ?_⟩
      have hlt : k * size + j < l.length * size := by
        have : (k + 1) * size ≤ l.length * size := Nat.mul_le_mul_right _ hk
        rw [Nat.add_mul] at this
        omega
      have e1 : (k * size + j) / size = k := by rw [Nat.mul_comm, Nat.mul_add_div (by omega), Nat.div_eq_of_lt hj]; omega
      have e2 : (k * size + j) % size = j := by rw [Nat.mul_comm, Nat.mul_add_mod, Nat.mod_eq_of_lt hj]
      rw [List.getElem?_map, List.getElem?_range hlt]
      simp only [Option.map_some, e1, e2]
      rw [List.getElem?_eq_getElem (by omega)]
      simp [List.getD, h1, hj]
    · have hj : j < l.length * size := by
        have := (List.getElem?_eq_some_iff.1 hu).1
        simpa using this
      have hsz : 0 < size := by
        rcases Nat.eq_zero_or_pos size with h0 | h0
        · subst h0; omega
        · exact h0
      have hk : j / size < l.length := by rw [Nat.div_lt_iff_lt_mul hsz]; omega
      obtain ⟨h1, h2, h3⟩ := hcs _ hk
      have hm := Nat.mod_lt j hsz
      rw [List.getElem?_map, List.getElem?_range hj] at hu
      simp only [Option.map_some, Option.some.injEq] at hu
      have h4 := h3 (j % size) _ (List.getElem?_eq_getElem (by omega))
      rw [Nat.add_assoc, Nat.div_add_mod' j size] at h4
      rw [h4, ← hu]
      simp [List.getD, List.getElem?_eq_getElem (show j % size < (css (j / size)).length by omega)]
  · obtain rfl : l = [] := List.eq_nil_of_length_eq_zero (by omega)
    exact ⟨[], ⟨by simp, fun k hk => by simp at hk⟩, fun j u hu => by simp at hu⟩
/-- A row of the call's own, as a slice that reads as l; its elements may lead on to S. -/
theorem IsSl.ownCells {base e n : Nat} {v : Value} (h : w.ownsRow base e size v n xs) (hn : n = l.length) (hc : CellsOf R size d w S l xs) (hs : ∀ b, S b → S' b) (hb : ∀ b, base ≤ b → b < w.heap.size → S' b) (hR : Stable R) : IsSl R size d w S' v l := by
  subst hn
  rcases h.2 with ⟨rfl, h0⟩ | ⟨g, cap, cur, rfl, hbg, hg, hnc, _, hcs, htake⟩
  · obtain rfl : l = [] := List.eq_nil_of_length_eq_zero h0
    exact IsSl.nil_
  · refine ⟨_, _, rfl, hnc, fun _ => ⟨g, 0, rfl, hb g hbg (Array.getElem?_eq_some_iff.1 hg).1, fun k hk => ?_⟩⟩
    obtain ⟨cs, h1, h2, h3⟩ := hc.2 k hk
    refine ⟨cs, h1, hR _ _ _ _ _ _ hs Keep.refl h2, fun j u hu => ?_⟩
    have hj : j < size := by
      have := (List.getElem?_eq_some_iff.1 hu).1
      omega
    have hlt : k * size + j < l.length * size := by
      have : (k + 1) * size ≤ l.length * size := Nat.mul_le_mul_right _ hk
      rw [Nat.add_mul] at this
      omega
    have hx := h3 j hj
    rw [hu, ← htake, List.getElem?_take, if_pos hlt] at hx
    rw [cell_of_row w g _ cur e (0, 0) hg, Nat.zero_add]
    simpa using hx
theorem flat_cellsOf {enc : α → List Value} (he : ∀ x, (enc x).length = size) (l : List α) : CellsOf (Flat enc) size d w S l (flats enc l) :=
  ⟨flats_length he l, fun k hk => ⟨enc (nth d l k), he _, rfl, fun j hj => by
    have := flats_get he l k j ((enc (nth d l k))[j]'(by rw [he]; exact hj)) hk (List.getElem?_eq_getElem _)
    rw [this]; exact (List.getElem?_eq_getElem _).symm⟩⟩
end
/-- 'append(out, s...)', out nil or the call's own, s at an address. -/
theorem wpList_append_cells {P : Program} {w : World} {ops : Array Oper} {rest : List Oper} {o : Oper} {a : Act} {Q : Exit → Act → World → Prop} {t e size bytes : Nat} {z : Value}
    (hu : P.underlying t = some (.slice e)) (hinfo : (P.info? e).map (fun i => (i.zero, i.size, i.bytes)) = some (some z, size, bytes)) (hz : z.cells.size = size) (hsz : 0 < size) (hby : 0 < bytes)
    (hg : o.guard = none) (s y : Operand) (hop : o.op = Op.call { callee := Callee.builtin Builtin.append, args := #[s, y], argTypes := #[t, t] })
    (base : Nat) (v : Value) (n : Nat) (xs : List Value) (hs : a.eval s = v) (hown : w.ownsRow base e size v n xs) (ad : Addr) (m c : Nat) (news : List Value) (hy : a.eval y = .slice (some ad) m c)
    (hl : news.length = m * size) (hc : ∀ j u, news[j]? = some u → w.cell? (ad.add j) = some u) (h1 : ∀ u ∈ news, u.oneCell' = true) (hb : (n + m) * bytes ≤ 140737488355328) (hbase : base ≤ w.heap.size)
    (hK : ∀ A cap w', w'.ownsRow base e size (.slice A (n + m) cap) (n + m) (xs ++ news) → w.grownBy w' v.ownBlock → wpList P ops Q rest (a.put o.dst (.slice A (n + m) cap)) w') :
    wpList P ops Q (o :: rest) a w := by
  obtain ⟨i0, hi, hz0, hz1, hz2⟩ := info_parts hinfo
  have hm : n + m ≤ maxLen := by
    have := Nat.mul_le_mul_left (n + m) hby
    unfold maxLen; omega
  refine wpList_append_own _ hg s y t hop base e i0 z size bytes hu hi hz0 hz1 hz2 hz hsz v n xs hs hown ad m c news hy hl hc h1 hm hb hbase ?_
  intro v' w1 hown1 hgrow _
  obtain ⟨A, cap, rfl, _⟩ := own_form0 hown1
  exact hK A cap w1 hown1 hgrow
theorem add_lit (b off j : Nat) : (⟨b, off, none⟩ : Addr).add j = ⟨b, off + j, none⟩ := by
  unfold Addr.add
  split
  · rename_i h; subst h; rfl
  · rfl
/-- A slice that is not nil but may be empty: its address, and its cells. -/
theorem some_cellsOf {α : Type} {R : Rel α} {size : Nat} {d : α} {w : World} {S : Nat → Prop} {l : List α} {a : Addr} (h : RowOf R size d w S (some a) l) : ∃ xs, CellsOf R size d w S l xs ∧ ∀ j u, xs[j]? = some u → w.cell? (a.add j) = some u := by
  by_cases hl : 0 < l.length
  · obtain ⟨b, off, e, hb, hc⟩ := h hl
    injection e with e
    subst e
    obtain ⟨xs, h1, h2⟩ := row_cellsOf h
    exact ⟨xs, h1, fun j u hu => by rw [add_lit]; exact h2 j u hu⟩
  · obtain rfl : l = [] := List.eq_nil_of_length_eq_zero (by omega)
    exact ⟨[], ⟨by simp, fun k hk => by simp at hk⟩, fun j u hu => by simp at hu⟩
end Go.Proofs.Ytolpgblegbahgaa
