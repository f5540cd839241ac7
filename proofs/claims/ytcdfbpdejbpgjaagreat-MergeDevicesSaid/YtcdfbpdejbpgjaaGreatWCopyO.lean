/- Devices in memory of the call's own, each one's mappings in a row of its own; pool.Copy makes such. Condition: no slice is longer than the reach. -/
import Derived.Test.YtcdfbpdejbpgjaaGreatWCopy
namespace Go.Proofs.YtcdfbpdejbpgjaaGreat
open Go.RowKit

theorem cells_flat {α : Type} {enc : α → List Value} {size : Nat} {d : α} {w : World} {S : Nat → Prop} {l : List α} {xs : List Value} (he : ∀ x, (enc x).length = size) (h : CellsOf (Flat enc) size d w S l xs) : xs = flats enc l := by
  have h2 := flat_cellsOf (d := d) (w := w) (S := S) he l
  apply List.ext_getElem?
  intro i
  by_cases hi : i < l.length * size
  · have hsz : 0 < size := by
      rcases Nat.eq_zero_or_pos size with h0 | h0
      · subst h0; omega
      · exact h0
    have hk : i / size < l.length := by rw [Nat.div_lt_iff_lt_mul hsz]; omega
    have hj := Nat.mod_lt i hsz
    obtain ⟨cs, _, e1, e2⟩ := h.2 _ hk
    obtain ⟨cs', _, e3, e4⟩ := h2.2 _ hk
    have e1 : cs = enc _ := e1
    have e3 : cs' = enc _ := e3
    have a1 := e2 _ hj
    have a2 := e4 _ hj
    rw [Nat.div_add_mod' i size] at a1 a2
    rw [a1, a2, e1, e3]
  · rw [List.getElem?_eq_none (by rw [h.1]; omega), List.getElem?_eq_none (by rw [h2.1]; omega)]
/-- A row of mappings of the call's own. -/
abbrev OwnMaps (w : World) (base : Nat) (v : Value) (l : List Mp) : Prop := w.ownsRow base 40 3 v l.length (flats Mp.enc l)
/-- The cells of device j among those of a row. -/
def DevCells (xs : List Value) (j : Nat) (d : Dev) (v : Value) : Prop := xs[j * 5]? = some (.int .i64 d.id) ∧ xs[j * 5 + 1]? = some (.int .i64 d.tx) ∧ xs[j * 5 + 2]? = some (.int .i64 d.made) ∧ xs[j * 5 + 3]? = some (.int .i64 d.snapped) ∧ xs[j * 5 + 4]? = some v
/-- Devices in a row of the call's own, each one's mappings in a row of its own. -/
def OwnDevs (w : World) (base : Nat) (v : Value) (l : List Dev) (M : Nat → Value) : Prop :=
  ∃ xs, w.ownsRow base 36 5 v l.length xs ∧ (∀ j, j < l.length → DevCells xs j (nth dev0 l j) (M j) ∧ OwnMaps w base (M j) (nth dev0 l j).maps ∧ (∀ g, (M j).ownBlock = some g → some g ≠ v.ownBlock)) ∧
    ∀ i j, i < l.length → j < l.length → i ≠ j → ∀ g, (M j).ownBlock = some g → some g ≠ (M i).ownBlock
theorem OwnMaps.form {w : World} {base : Nat} {v : Value} {l : List Mp} (h : OwnMaps w base v l) : ∃ A c, v = .slice A l.length c ∧ l.length ≤ c := own_form0 h
theorem OwnMaps.isl {w : World} {base : Nat} {v : Value} {l : List Mp} {S : Nat → Prop} (h : OwnMaps w base v l) (hS : ∀ b, base ≤ b → b < w.heap.size → S b) : IsSl RMp 3 mp0 w S v l :=
  (IsSl.own Mp.enc_len h (by omega)).sub (flat_stable _) (fun b hb => hS b hb.1 hb.2)
/-- Such devices read as devices. -/
theorem OwnDevs.isl {w : World} {base : Nat} {v : Value} {l : List Dev} {M : Nat → Value} {S : Nat → Prop} (h : OwnDevs w base v l M) (hS : ∀ b, base ≤ b → b < w.heap.size → S b) : IsDevs w S v l := by
  obtain ⟨xs, hrow, hc, _⟩ := h
  refine IsSl.ownCells (S := S) hrow rfl ⟨own_len hrow, fun k hk => ?_⟩ (fun _ h => h) hS rdev_stable
  obtain ⟨⟨e0, e1, e2, e3, e4⟩, hm, _⟩ := hc k hk
  obtain ⟨A, c, hA, hc', hr⟩ := hm.isl hS
  refine ⟨[.int .i64 (nth dev0 l k).id, .int .i64 (nth dev0 l k).tx, .int .i64 (nth dev0 l k).made, .int .i64 (nth dev0 l k).snapped, .slice A (nth dev0 l k).maps.length c], rfl, ⟨A, c, rfl, hc', hr⟩, fun j hj => ?_⟩
  rw [hA] at e4
  rcases j with _ | _ | _ | _ | _ | j
  · exact e0
  · exact e1
  · exact e2
  · exact e3
  · exact e4
  · omega
theorem OwnDevs.keep {w w' : World} {base : Nat} {v : Value} {l : List Dev} {M : Nat → Value} {B : Nat} (h : OwnDevs w base v l M) (hB : Below B w w') (hb : w.heap.size ≤ B) : OwnDevs w' base v l M := by
  obtain ⟨xs, hrow, hc, hap⟩ := h
  exact ⟨xs, own_below hrow hB (fun g hg => Nat.lt_of_lt_of_le (hrow.lt g hg).2 hb), fun j hj => ⟨(hc j hj).1, own_below (hc j hj).2.1 hB (fun g hg => Nat.lt_of_lt_of_le ((hc j hj).2.1.lt g hg).2 hb), (hc j hj).2.2⟩, hap⟩
theorem own_low {w : World} {base base' e size : Nat} {v : Value} {n : Nat} {xs : List Value} (h : w.ownsRow base e size v n xs) (hb : base' ≤ base) : w.ownsRow base' e size v n xs := by
  refine ⟨h.1, ?_⟩
  rcases h.2 with h0 | ⟨g', cap, cur, hv, hb', hr⟩
  · exact .inl h0
  · exact .inr ⟨g', cap, cur, hv, by omega, hr⟩
theorem own5 {w : World} {b base e size : Nat} {v : Value} {n : Nat} {xs : List Value} (h : w.ownsRow base e size v n xs) (hb : b < base) (u0 u1 u2 u3 u4 : Value) :
    (((((w.setCell ⟨b, 0, none⟩ u0).setCell ⟨b, 1, none⟩ u1).setCell ⟨b, 2, none⟩ u2).setCell ⟨b, 3, none⟩ u3).setCell ⟨b, 4, none⟩ u4).ownsRow base e size v n xs := by
  have hne : v.ownBlock ≠ some b := fun e => by have := (h.lt _ e).1; omega
  exact ((((h.kept (grownBy_set w ⟨b, 0, none⟩ u0) (.inr hne)).kept (grownBy_set _ ⟨b, 1, none⟩ u1) (.inr hne)).kept (grownBy_set _ ⟨b, 2, none⟩ u2) (.inr hne)).kept (grownBy_set _ ⟨b, 3, none⟩ u3) (.inr hne)).kept (grownBy_set _ ⟨b, 4, none⟩ u4) (.inr hne)
/-- The row of devices while it is copied: the first k have mappings of the call's own. -/
def OwnAt (w : World) (S : Nat → Prop) (base : Nat) (v : Value) (k : Nat) (l : List Dev) (xs : List Value) (M : Nat → Value) : Prop :=
  (∀ j, j < l.length → DevCells xs j (nth dev0 l j) (M j)) ∧ (∀ j, j < k → j < l.length → OwnMaps w base (M j) (nth dev0 l j).maps ∧ ∀ g, (M j).ownBlock = some g → some g ≠ v.ownBlock) ∧
    (∀ j, k ≤ j → j < l.length → IsSl RMp 3 mp0 w S (M j) (nth dev0 l j).maps) ∧ ∀ i j, i < k → j < k → i < l.length → j < l.length → i ≠ j → ∀ g, (M j).ownBlock = some g → some g ≠ (M i).ownBlock
theorem OwnAt.zero {w : World} {S : Nat → Prop} {base : Nat} {v : Value} {l : List Dev} {xs : List Value} (h : CellsOf RDev 5 dev0 w S l xs) : ∃ M, OwnAt w S base v 0 l xs M := by
  have h1 : ∀ j, j < l.length → ∃ u, DevCells xs j (nth dev0 l j) u ∧ IsSl RMp 3 mp0 w S u (nth dev0 l j).maps := by
    intro j hj
    obtain ⟨cs, h1, ⟨A, c, rfl, hc, hr⟩, h3⟩ := h.2 j hj
    exact ⟨.slice A (nth dev0 l j).maps.length c, ⟨h3 0 (by omega), h3 1 (by omega), h3 2 (by omega), h3 3 (by omega), h3 4 (by omega)⟩, A, c, rfl, hc, hr⟩
  have : Inhabited Value := ⟨undef⟩
  obtain ⟨M, hM⟩ := Go.Deep.choose_lt h1
  exact ⟨M, fun j hj => (hM j hj).1, fun j hj => by omega, fun j _ hj => (hM j hj).2, fun i j hi => by omega⟩
/-- One device more. -/
theorem OwnAt.next {w w' : World} {S : Nat → Prop} {base g k n c : Nat} {u : Value} {l : List Dev} {xs : List Value} {M : Nat → Value} (h : OwnAt w S base (.slice (some ⟨g, 0, none⟩) n c) k l xs M) (hS : ∀ b, S b → b < base) (hbg : base ≤ g) (hg : g < w.heap.size) (hk : k < l.length) (hx : xs.length = l.length * 5) (hB : Below w.heap.size w w')
    (hm : OwnMaps w' w.heap.size u (nth dev0 l k).maps) : OwnAt (w'.setCell ⟨g, k * 5 + 4, none⟩ u) S base (.slice (some ⟨g, 0, none⟩) n c) (k + 1) l (xs.set (k * 5 + 4) u) (fun j => if j = k then u else M j) := by
  have hsz := hB.size
  obtain ⟨h1, h2, h3, h4⟩ := h
  have hown : ∀ {b0 : Nat} {v1 : Value} {l1 : List Mp}, OwnMaps w' b0 v1 l1 → (∀ g', v1.ownBlock = some g' → g' ≠ g) → OwnMaps (w'.setCell ⟨g, k * 5 + 4, none⟩ u) b0 v1 l1 := by
    intro b0 v1 l1 ho hne
    refine ⟨ho.1, ?_⟩
    rcases ho.2 with h0 | ⟨g', cap, cur, rfl, hb, hg', hnc, hmx, hcs, ht⟩
    · exact .inl h0
    · exact .inr ⟨g', cap, cur, rfl, hb, (Below.heap_setCell w' ⟨g, k * 5 + 4, none⟩ _ g' (hne g' rfl)).trans hg', hnc, hmx, hcs, ht⟩
  refine ⟨fun j hj => ?_, fun j hjk hj => ?_, fun j hjk hj => ?_, fun i j hi hj hil hjl hij g' hg' => ?_⟩
  · obtain ⟨e0, e1, e2, e3, e4⟩ := h1 j hj
    simp only
    by_cases e : j = k
    · subst e
      rw [if_pos rfl]
      refine ⟨?_, ?_, ?_, ?_, ?_⟩
      · rw [List.getElem?_set_ne (by omega)]; exact e0
      · rw [List.getElem?_set_ne (by omega)]; exact e1
      · rw [List.getElem?_set_ne (by omega)]; exact e2
      · rw [List.getElem?_set_ne (by omega)]; exact e3
      · rw [List.getElem?_set_self (by omega)]
    · rw [if_neg e]
      refine ⟨?_, ?_, ?_, ?_, ?_⟩
      · rw [List.getElem?_set_ne (by omega)]; exact e0
      · rw [List.getElem?_set_ne (by omega)]; exact e1
      · rw [List.getElem?_set_ne (by omega)]; exact e2
      · rw [List.getElem?_set_ne (by omega)]; exact e3
      · rw [List.getElem?_set_ne (by omega)]; exact e4
  · simp only
    by_cases e : j = k
    · subst e
      rw [if_pos rfl]
      have hge : ∀ g', u.ownBlock = some g' → w.heap.size ≤ g' := fun g' hg' => (hm.lt g' hg').1
      refine ⟨?_, fun g' hg' he => ?_⟩
      · have h0 := hown hm (fun g' hg' e => by have := hge g' hg'; omega)
        refine ⟨h0.1, ?_⟩
        rcases h0.2 with h0 | ⟨g', cap, cur, rfl, hb, hr⟩
        · exact .inl h0
        · exact .inr ⟨g', cap, cur, rfl, by omega, hr⟩
      · have := hge g' hg'
        simp [Value.ownBlock] at he
        omega
    · rw [if_neg e]
      obtain ⟨ho, hne⟩ := h2 j (by omega) hj
      exact ⟨hown (own_below ho hB (fun g' hg' => (ho.lt g' hg').2)) (fun g' hg' e => hne g' hg' (by rw [e]; rfl)), hne⟩
  · simp only
    rw [if_neg (by omega)]
    exact (h3 j (by omega) hj).keep rmp_stable (fun _ h => h) (fun b o hb => by
      have := hS b hb
      rw [World.cell?_setCell_other _ _ _ _ (fun e => absurd (congrArg Addr.block e) (by show ¬ g = b; omega))]
      exact hB.cell (p := ⟨b, o, none⟩) (show b < w.heap.size by omega))
  · simp only at hg' ⊢
    by_cases ei : i = k
    · rw [if_pos ei]
      rw [if_neg (by omega)] at hg'
      intro he
      have h5 := ((h2 j (by omega) hjl).1.lt g' hg').2
      have h6 := (hm.lt g' he.symm).1
      omega
    · rw [if_neg ei]
      by_cases ej : j = k
      · rw [if_pos ej] at hg'
        intro he
        have h5 := ((h2 i (by omega) hil).1.lt g' he.symm).2
        have h6 := (hm.lt g' hg').1
        omega
      · rw [if_neg ej] at hg'
        exact h4 i j (by omega) (by omega) hil hjl hij g' hg'
theorem cloneMaps_own (w : World) (S : Nat → Prop) (v : Value) (l : List Mp) (hS : ∀ b, S b → b < w.heap.size) (h : IsSl RMp 3 mp0 w S v l) (hn : l.length ≤ 2199023255552) :
    Calls Tryz.prog 29 #[v] w fun e w' => ∃ A c, e = .returned (.slice A l.length c) ∧ OwnMaps w' w.heap.size (.slice A l.length c) l ∧ Below w.heap.size w w' := by
  refine (cloneMaps w S v l hS h hn).mono ?_
  rintro e w' ⟨v', rfl, _, _, hB, xs, hown, hcs⟩
  have hx : xs = flats Mp.enc l := cells_flat Mp.enc_len hcs
  rw [hx] at hown
  obtain ⟨A, c, rfl, _⟩ := own_form0 hown
  exact ⟨A, c, rfl, hown, hB⟩
set_option maxRecDepth 100000 in
set_option maxHeartbeats 3200000 in
theorem copy_own (w : World) (S : Nat → Prop) (v : Value) (p : Pool) (hS : ∀ b, S b → b < w.heap.size) (h : IsPool w S v p) (hnd : p.devs.length ≤ 1099511627776) (hmk : ∀ k, k < p.devs.length → (nth dev0 p.devs k).maps.length ≤ 2199023255552) :
    Calls Tryz.prog 26 #[v] w fun e w' => ∃ A c M, e = .returned (.agg #[.int .i64 p.tx, .int .i64 p.time, .int .i64 p.unit, .int .i64 p.data, .slice A p.devs.length c]) ∧ OwnDevs w' w.heap.size (.slice A p.devs.length c) p.devs M ∧ Below w.heap.size w w' := by
  obtain ⟨A, c, rfl, hc, hr⟩ := h
  have hB0 : Below w.heap.size w ((w.alloc (poolBox p A p.devs.length c)).alloc (.cells #[.int .i64 0, .int .i64 0, .int .i64 0, .int .i64 0, .slice none 0 0] 24)) := ((Below.refl _ _).alloc (Nat.le_refl _) _).alloc (by simp) _
  have hp1 : PBox ((w.alloc (poolBox p A p.devs.length c)).alloc (.cells #[.int .i64 0, .int .i64 0, .int .i64 0, .int .i64 0, .slice none 0 0] 24)) w.heap.size p A p.devs.length c := (PBox.new w p A p.devs.length c).below (Below.alloc (Below.refl _ _) (Nat.le_refl _) _) (by simp)
  have hz0 : ((w.alloc (poolBox p A p.devs.length c)).alloc (.cells #[.int .i64 0, .int .i64 0, .int .i64 0, .int .i64 0, .slice none 0 0] 24)).heap.size = w.heap.size + 2 := by simp
  have hd0 : ((w.alloc (poolBox p A p.devs.length c)).alloc (.cells #[.int .i64 0, .int .i64 0, .int .i64 0, .int .i64 0, .slice none 0 0] 24)).heap[w.heap.size + 1]? = some (.cells #[.int .i64 0, .int .i64 0, .int .i64 0, .int .i64 0, .slice none 0 0] 24 (0, 0)) := by
    have := heap_alloc_new (w.alloc (poolBox p A p.devs.length c)) (.cells #[.int .i64 0, .int .i64 0, .int .i64 0, .int .i64 0, .slice none 0 0] 24)
    simpa only [World.size_alloc] using this
  have hcl := cloneDevs ((w.alloc (poolBox p A p.devs.length c)).alloc (.cells #[.int .i64 0, .int .i64 0, .int .i64 0, .int .i64 0, .slice none 0 0] 24)) S (.slice A p.devs.length c) p.devs (fun b hb => by have := hS b hb; omega) ⟨A, c, rfl, hc, hr.keep rdev_stable (fun _ h => h) (keep_below hB0 hS)⟩ (by omega)
  dsimp only [poolBox] at hB0 hp1 hz0 hd0 hcl
  have HCL := Lib.hid hcl
  clear hcl
  go_enter Tryz.func26, Tryz.ntmps26
  go_wp2_with fail
  refine HCL.out.mono ?_
  rintro e w2 ⟨v2, rfl, hX, h2, hB2, xs, hown, hcs⟩
  clear hX
  have hs2 := hB2.size
  have hp2 := hp1.below hB2 (by omega)
  obtain ⟨x0, x1, x2, x3, x4⟩ := hp2.cells
  have hf : w2.frozen? ⟨w.heap.size, 4, none⟩ = false := by simp [World.frozen?, show w2.heap[w.heap.size]? = _ from hp2]
  obtain ⟨A2, c2, rfl, hc2, hr2⟩ := h2 (fun _ => True) (fun _ _ _ => trivial) (fun _ _ => trivial)
  go_wp2_with fail
  have hp3 : PBox (w2.setCell ⟨w.heap.size, 4, none⟩ (.slice A2 p.devs.length c2)) w.heap.size p A2 p.devs.length c2 := by
    unfold PBox at hp2 ⊢
    simp [World.setCell, Array.getElem?_modify, hp2]
  have hne0 : ¬ w.heap.size + 1 = w.heap.size := by omega
  have hd2 : w2.heap[w.heap.size + 1]? = _ := (hB2.block _ (by omega)).trans hd0
  have hd3 : (w2.setCell ⟨w.heap.size, 4, none⟩ (.slice A2 p.devs.length c2)).heap[w.heap.size + 1]? = _ := (Below.heap_setCell w2 ⟨w.heap.size, 4, none⟩ _ _ hne0).trans hd2
  rw [hz0] at hown
  have hown3 := hown.kept (grownBy_set w2 ⟨w.heap.size, 4, none⟩ (.slice A2 p.devs.length c2)) (.inr (fun e => by have := hown.lt _ e; simp at this; omega))
  have hB3 : Below w.heap.size w (w2.setCell ⟨w.heap.size, 4, none⟩ (.slice A2 p.devs.length c2)) := (hB0.trans (hB2.mono (by rw [hz0]; omega))).setCell (Nat.le_refl _) _
  obtain ⟨M0, hcp⟩ := (OwnAt.zero (base := w.heap.size + 2) (v := Value.slice A2 p.devs.length c2) (hcs.keep rdev_stable (fun _ h => h) (keep_setCell (p := ⟨w.heap.size, 4, none⟩) (fun h => absurd (hS _ h) (by simp)) (.slice A2 p.devs.length c2))))
  have HMK := Lib.hid hmk
  generalize hw3 : w2.setCell ⟨w.heap.size, 4, none⟩ (.slice A2 p.devs.length c2) = w3 at *
  clear hw3 hown hcs h2 hr2 hp2 hd2 x0 x1 x2 x3 x4 hf hp1 hB2 hs2 hB0 hz0 hd0 hr HCL hmk hc
  generalize hn0 : p.devs.length = n at *
  have HN := Lib.hid hn0
  clear hn0
  go_loopw [11] (fun i wr => ∃ (k : Nat) (xs : List Value) (M : Nat → Value), k ≤ n ∧ i = .int .i64 k ∧ Below w.heap.size w wr ∧ PBox wr w.heap.size p A2 n c2 ∧ wr.heap[w.heap.size + 1]? = some (.cells #[.int .i64 0, .int .i64 0, .int .i64 0, .int .i64 0, .slice none 0 0] 24 (0, 0)) ∧ wr.ownsRow (w.heap.size + 2) 36 5 (.slice A2 n c2) n xs ∧ OwnAt wr S (w.heap.size + 2) (Value.slice A2 n c2) k p.devs xs M) (fun i _ => n - (intOf i).toNat)
  case atStart => exact ⟨0, xs, M0, by omega, rfl, hB3, hp3, hd3, hown3, hcp⟩
  case round =>
    clear hp3 hd3 hown3 hcp hB3
    obtain ⟨k, xs, M, hk, rfl, hB, hp, hd, hrow, hcopy⟩ := hrel
    obtain ⟨x0, x1, x2, x3, x4⟩ := hp.cells
    by_cases hlt : k < n
    · obtain ⟨g, cap, heq, hbg, hg, hcap⟩ := own_form hrow (by omega)
      simp only [Value.slice.injEq, true_and] at heq
      obtain ⟨rfl, rfl⟩ := heq
      have hkl : k < p.devs.length := by rw [HN.out]; exact hlt
      obtain ⟨e0, e1, e2, e3, e4⟩ := hcopy.1 k hkl
      obtain ⟨A1, c1, hM1, hc1, hm1⟩ := hcopy.2.2.1 k (Nat.le_refl _) hkl
      rw [hM1] at e4
      have HM1 := Lib.hid hM1
      clear hM1
      have hcell : wr.cell? ⟨g, k * 5 + 4, none⟩ = some (.slice A1 (nth dev0 p.devs k).maps.length c1) := by rw [hrow.cellAt (k * 5 + 4) (by omega)]; exact e4
      have hSw : ∀ b, S b → b < wr.heap.size := fun b hb => by have := hS b hb; have := hB.size; omega
      have hcl := cloneMaps_own wr.drew S (.slice A1 (nth dev0 p.devs k).maps.length c1) (nth dev0 p.devs k).maps hSw ⟨A1, c1, rfl, hc1, hm1⟩ (HMK.out k hlt)
      have HCL := Lib.hid hcl
      have HCOPY := Lib.hid hcopy
      have HROW := Lib.hid hrow
      have hszw := hB.size
      have hmlen := HMK.out k hlt
      have HB := Lib.hid hB
      have hp0 := PBox.lt hp
      clear hcl hcopy e0 e1 e2 e3 e4 hm1
      generalize hml : (nth dev0 p.devs k).maps.length = ml at *
      have HML := Lib.hid hml
      clear hml
      have hown_lt : ∀ b, (Value.slice (some ⟨g, 0, none⟩) n c2).ownBlock = some b → b < wr.heap.size := fun b e => by cases e; exact hg
      go_wp2_with fail
      go_region_law (first | (go_simp; go_at_call 29; refine HCL.out.mono ?_; rintro e w5 ⟨A5, c5, rfl, hm5, hB5⟩; have hB5 := (Below.drew_left hB5); have hp5 := PBox.below hp hB5 hp0; obtain ⟨y0, y1, y2, y3, y4⟩ := hp5.cells; have hrow5 := own_below hrow hB5 hown_lt; have y5 := (hB5.cell (p := ⟨g, k * 5 + 4, none⟩) hg).trans hcell; have y6 := hrow5.frozenAt (k * 5 + 4)))
      go_wp2_with fail
      all_goals (
        refine ⟨⟨k + 1, xs.set (k * 5 + 4) (.slice A5 ml c5), (fun j => if j = k then .slice A5 ml c5 else M j), by omega, by go_num, (HB.out.trans (hB5.mono hszw)).setCell (by simp only; omega) _, ?_, ?_, (hrow5.stored _ _).1, ?_⟩, by simp [intOf]; omega⟩
        · exact (Below.heap_setCell w5 ⟨g, k * 5 + 4, none⟩ _ _ (by simp; omega)).trans hp5
        · exact (Below.heap_setCell w5 ⟨g, k * 5 + 4, none⟩ _ _ (by simp; omega)).trans ((hB5.block _ (Array.getElem?_eq_some_iff.1 hd).1).trans hd)
        · have hm6 := hm5
          rw [← HML.out] at hm6 ⊢
          exact OwnAt.next (g := g) HCOPY.out (fun b hb => by have := hS b hb; omega) (by omega) hg hkl (by have := own_len HROW.out; rw [HN.out]; exact this) hB5 hm6)
    · obtain rfl : k = n := by omega
      have hs5 := set5 hd (.int .i64 p.tx) (.int .i64 p.time) (.int .i64 p.unit) (.int .i64 p.data) (.slice A2 k c2)
      have hb5 := below5 hB (b := w.heap.size + 1) (by omega) (.int .i64 p.tx) (.int .i64 p.time) (.int .i64 p.unit) (.int .i64 p.data) (.slice A2 k c2)
      have hz5 := size5 wr (w.heap.size + 1) (.int .i64 p.tx) (.int .i64 p.time) (.int .i64 p.unit) (.int .i64 p.data) (.slice A2 k c2)
      obtain ⟨d0, d1, d2, d3, d4⟩ := cells5 hd
      have hfz : ∀ o, wr.frozen? ⟨w.heap.size + 1, o, none⟩ = false := fun o => by simp [World.frozen?, hd]
      have f0 := hfz 0
      have f1 := hfz 1
      have f2 := hfz 2
      have f3 := hfz 3
      have f4 := hfz 4
      go_wp2_with fail
      have hof : ∀ (t sz : Nat) (v1 : Value) (n1 : Nat) (ys : List Value), wr.ownsRow (w.heap.size + 2) t sz v1 n1 ys → _ := fun t sz v1 n1 ys ho => own5 (b := w.heap.size + 1) ho (by omega) (.int .i64 p.tx) (.int .i64 p.time) (.int .i64 p.unit) (.int .i64 p.data) (.slice A2 k c2)
      generalize ((((wr.setCell ⟨w.heap.size + 1, 0, none⟩ (.int .i64 p.tx)).setCell ⟨w.heap.size + 1, 1, none⟩ (.int .i64 p.time)).setCell ⟨w.heap.size + 1, 2, none⟩ (.int .i64 p.unit)).setCell ⟨w.heap.size + 1, 3, none⟩ (.int .i64 p.data)).setCell ⟨w.heap.size + 1, 4, none⟩ (.slice A2 k c2) = w5 at *
      obtain ⟨r0, r1, r2, r3, r4⟩ := cells5 hs5
      refine bodyPost_ret (v := .agg #[.int .i64 p.tx, .int .i64 p.time, .int .i64 p.unit, .int .i64 p.data, .slice A2 k c2]) (by simp [results, Tryz.results26, go_sem, r0, r1, r2, r3, r4]) rfl ?_
      have hrow5 := hof _ _ _ _ _ hrow
      rw [← HN.out] at hrow5 hcopy ⊢
      obtain ⟨k1, k2, _, k4⟩ := hcopy
      refine ⟨A2, c2, M, rfl, ?_, hb5⟩
      exact ⟨xs, own_low hrow5 (by omega), fun j hj => ⟨k1 j hj, own_low (hof _ _ _ _ _ (k2 j hj hj).1) (by omega), (k2 j hj hj).2⟩, fun i j hi hj => k4 i j hi hj hi hj⟩
end Go.Proofs.YtcdfbpdejbpgjaaGreat
