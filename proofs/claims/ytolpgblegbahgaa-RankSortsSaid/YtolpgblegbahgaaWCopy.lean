/- pool.Copy: the same pool in memory of its own. Condition: no slice is longer than the reach. -/
import Derived.Test.YtolpgblegbahgaaPBox
import Derived.Test.YtolpgblegbahgaaWCloneM
import Derived.Test.YtolpgblegbahgaaWCloneD
import Derived.Deep.AppendLies
import Derived.RangeFuncBox
import Derived.Deep.RegionLaw
namespace Go.Proofs.Ytolpgblegbahgaa
open Go.RowKit

/-- A block that may be written. -/
def Thaw (w : World) (b : Nat) : Prop := ∀ o, w.frozen? ⟨b, o, none⟩ = false
theorem Thaw.below {w w' : World} {B b : Nat} (h : Thaw w b) (hB : Below B w w') (hb : b < B) : Thaw w' b := fun o => (hB.frozen (p := ⟨b, o, none⟩) hb).trans (h o)
theorem Thaw.set {w : World} {b : Nat} (h : Thaw w b) (p : Addr) (u : Value) : Thaw (w.setCell p u) b := fun o => by rw [World.frozen?_setCell]; exact h o
theorem IsSl.ownThaw {α : Type} {R : Rel α} {size : Nat} {d : α} {w : World} {S S' : Nat → Prop} {l : List α} {xs : List Value} {base e n : Nat} {v : Value} (h : w.ownsRow base e size v n xs) (hn : n = l.length) (hc : CellsOf R size d w S l xs) (hs : ∀ b, S b → S' b) (hb : ∀ b, base ≤ b → b < w.heap.size → Thaw w b → S' b) (hR : Stable R) : IsSl R size d w S' v l := by
  subst hn
  rcases h.2 with ⟨rfl, h0⟩ | ⟨g, cap, cur, rfl, hbg, hg, hnc, hm, hcs, htake⟩
  · obtain rfl : l = [] := List.eq_nil_of_length_eq_zero h0
    exact IsSl.nil_
  · refine ⟨_, _, rfl, hnc, fun _ => ⟨g, 0, rfl, hb g hbg (Array.getElem?_eq_some_iff.1 hg).1 (fun o => frozen_of_row w g o cur e hg), fun k hk => ?_⟩⟩
    obtain ⟨cs, h1, h2, h3⟩ := hc.2 k hk
    refine ⟨cs, h1, hR _ _ _ _ _ _ hs Keep.refl h2, fun j u hu => ?_⟩
    have hj : j < size := by
      have := (List.getElem?_eq_some_iff.1 hu).1
      omega
    have hlt : k * size + j < l.length * size := by
      have : (k + 1) * size ≤ l.length * size := Nat.mul_le_mul_right _ hk
      rw [Nat.add_mul] at this
      omega
    have hx := h3 j hj
    rw [hu, ← htake, List.getElem?_take, if_pos hlt] at hx
    rw [cell_of_row w g _ cur e (0, 0) hg, Nat.zero_add]
    simpa using hx
/-- Row of devices while it is copied: the mappings of the first k lie in the call's own memory, and not in the row. -/
def CopyAt (w : World) (S : Nat → Prop) (base : Nat) (g : Option Nat) (k : Nat) (l : List Dev) (xs : List Value) : Prop :=
  xs.length = l.length * 5 ∧ ∀ j, j < l.length → ∃ A c, (xs[j * 5]? = some (.int .i64 (nth dev0 l j).id) ∧ xs[j * 5 + 1]? = some (.int .i64 (nth dev0 l j).tx) ∧ xs[j * 5 + 2]? = some (.int .i64 (nth dev0 l j).made) ∧ xs[j * 5 + 3]? = some (.int .i64 (nth dev0 l j).snapped) ∧ xs[j * 5 + 4]? = some (.slice A (nth dev0 l j).maps.length c)) ∧
    (nth dev0 l j).maps.length ≤ c ∧ MapRow w (fun b => if j < k then base ≤ b ∧ b < w.heap.size ∧ b ≠ base + 1 ∧ some b ≠ g ∧ Thaw w b else S b) A (nth dev0 l j).maps

theorem CopyAt.zero {w : World} {S : Nat → Prop} {base : Nat} {g : Option Nat} {l : List Dev} {xs : List Value} (h : CellsOf RDev 5 dev0 w S l xs) : CopyAt w S base g 0 l xs := by
  refine ⟨h.1, fun j hj => ?_⟩
  obtain ⟨cs, h1, ⟨A, c, rfl, hc, hr⟩, h3⟩ := h.2 j hj
  have g0 := h3 0 (by omega)
  have g1 := h3 1 (by omega)
  have g2 := h3 2 (by omega)
  have g3 := h3 3 (by omega)
  have g4 := h3 4 (by omega)
  exact ⟨A, c, ⟨g0, g1, g2, g3, g4⟩, hc, by simpa using hr⟩
/-- One device more: its mappings lie in new memory. -/
theorem CopyAt.next {w w' : World} {S : Nat → Prop} {base g k c : Nat} {l : List Dev} {xs : List Value} {A : Option Addr} (h : CopyAt w S base (some g) k l xs) (hS : ∀ b, S b → b < base) (hbg : base + 1 < g) (hg : g < w.heap.size) (hk : k < l.length) (hB : Below w.heap.size w w') (hc : (nth dev0 l k).maps.length ≤ c)
    (hm : MapRow w' (fun b => Btw w.heap.size w'.heap.size b ∧ Thaw w' b) A (nth dev0 l k).maps) : CopyAt (w'.setCell ⟨g, k * 5 + 4, none⟩ (.slice A (nth dev0 l k).maps.length c)) S base (some g) (k + 1) l (xs.set (k * 5 + 4) (.slice A (nth dev0 l k).maps.length c)) := by
  have hsz := hB.size
  refine ⟨by rw [List.length_set]; exact h.1, fun j hj => ?_⟩
  obtain ⟨A', c', ⟨e0, e1, e2, e3, e4⟩, hc', hr⟩ := h.2 j hj
  have hl := h.1
  by_cases e : j = k
  · subst e
    refine ⟨A, c, ⟨?_, ?_, ?_, ?_, ?_⟩, hc, ?_⟩
    · rw [List.getElem?_set_ne (by omega)]; exact e0
    · rw [List.getElem?_set_ne (by omega)]; exact e1
    · rw [List.getElem?_set_ne (by omega)]; exact e2
    · rw [List.getElem?_set_ne (by omega)]; exact e3
    · rw [List.getElem?_set_self (by omega)]
    · refine hm.keep rmp_stable (fun b hb => ?_) (keep_setCell (fun hh => by have := hh.1.1; dsimp only at this; omega) _)
      rw [if_pos (by omega)]
      obtain ⟨⟨h1, h2⟩, h3⟩ := hb
      exact ⟨by omega, by simpa using h2, by omega, by simp; omega, h3.set _ _⟩
  · refine ⟨A', c', ⟨?_, ?_, ?_, ?_, ?_⟩, hc', ?_⟩
    · rw [List.getElem?_set_ne (by omega)]; exact e0
    · rw [List.getElem?_set_ne (by omega)]; exact e1
    · rw [List.getElem?_set_ne (by omega)]; exact e2
    · rw [List.getElem?_set_ne (by omega)]; exact e3
    · rw [List.getElem?_set_ne (by omega)]; exact e4
    · by_cases hjk : j < k
      · refine hr.keep rmp_stable (fun b hb => ?_) ?_
        · rw [if_pos hjk] at hb
          rw [if_pos (by omega)]
          exact ⟨hb.1, by have := hb.2.1; simp; omega, hb.2.2.1, hb.2.2.2.1, (hb.2.2.2.2.below hB hb.2.1).set _ _⟩
        · refine Keep.trans (keep_below hB (fun b hb => ?_)) (keep_setCell (fun hh => ?_) _)
          · rw [if_pos hjk] at hb; exact hb.2.1
          · rw [if_pos hjk] at hh; exact hh.2.2.2.1 rfl
      · refine hr.keep rmp_stable (fun b hb => ?_) ?_
        · rw [if_neg hjk] at hb
          rw [if_neg (by omega)]
          exact hb
        · refine Keep.trans (keep_below hB (fun b hb => ?_)) (keep_setCell (fun hh => ?_) _)
          · rw [if_neg hjk] at hb; have := hS b hb; omega
          · rw [if_neg hjk] at hh; have := hS _ hh; dsimp only at this; omega
/-- All copied: the cells are those of the devices, in the call's own memory. -/
theorem CopyAt.done {w : World} {S : Nat → Prop} {base : Nat} {g : Option Nat} {l : List Dev} {xs : List Value} (h : CopyAt w S base g l.length l xs) : CellsOf RDev 5 dev0 w (fun b => ((base ≤ b ∧ b < w.heap.size) ∧ b ≠ base + 1) ∧ Thaw w b) l xs := by
  refine ⟨h.1, fun j hj => ?_⟩
  obtain ⟨A, c, ⟨e0, e1, e2, e3, e4⟩, hc, hr⟩ := h.2 j hj
  refine ⟨_, rfl, ⟨A, c, rfl, hc, hr.keep rmp_stable (fun b hb => ?_) Keep.refl⟩, fun i hi => ?_⟩
  · rw [if_pos hj] at hb
    exact ⟨⟨⟨hb.1, hb.2.1⟩, hb.2.2.1⟩, hb.2.2.2.2⟩
  · rcases i with _ | _ | _ | _ | _ | i
    · exact e0
    · exact e1
    · exact e2
    · exact e3
    · exact e4
    · omega
theorem Below.drew_left {B : Nat} {w w' : World} (h : Below B w.drew w') : Below B w w' := Below.trans (Below.drew (Below.refl B w)) h
theorem own_below {w w' : World} {base e size B : Nat} {v : Value} {n : Nat} {xs : List Value} (h : w.ownsRow base e size v n xs) (hB : Below B w w') (hlt : ∀ g, v.ownBlock = some g → g < B) : w'.ownsRow base e size v n xs := by
  refine ⟨h.1, ?_⟩
  rcases h.2 with h0 | ⟨g, cap, cur, rfl, hb, hg, hnc, hm, hcs, ht⟩
  · exact .inl h0
  · exact .inr ⟨g, cap, cur, rfl, hb, (hB.block g (hlt g rfl)).trans hg, hnc, hm, hcs, ht⟩
/-- Mappings cloned lie in new memory. -/
theorem cloneMaps_new (w : World) (S : Nat → Prop) (v : Value) (l : List Mp) (hS : ∀ b, S b → b < w.heap.size) (h : IsSl RMp 3 mp0 w S v l) (hn : l.length ≤ 2199023255552) :
    Calls Try.prog 38 #[v] w fun e w' => ∃ A c, e = .returned (.slice A l.length c) ∧ l.length ≤ c ∧ MapRow w' (fun b => Btw w.heap.size w'.heap.size b ∧ Thaw w' b) A l ∧ Below w.heap.size w w' := by
  refine (cloneMaps w S v l hS h hn).mono ?_
  rintro e w' ⟨v', rfl, _, _, hB, xs, hown, hcs⟩
  have h2 : IsSl RMp 3 mp0 w' (fun b => Btw w.heap.size w'.heap.size b ∧ Thaw w' b) v' l := IsSl.ownThaw (S := fun _ => False) hown rfl ⟨hcs.1, hcs.2⟩ (fun _ h => h.elim) (fun b h1 h2 h3 => ⟨⟨h1, h2⟩, h3⟩) rmp_stable
  obtain ⟨A, c, rfl, hc, hr⟩ := h2
  exact ⟨A, c, rfl, hc, hr, hB⟩
theorem grownBy_set (w : World) (p : Addr) (u : Value) : w.grownBy (w.setCell p u) (some p.block) :=
  ⟨rfl, rfl, rfl, (KeepsOthers.setCell w p u).size, fun k _ hne => Below.heap_setCell w p u k (fun e => hne (by rw [e]))⟩
set_option maxRecDepth 100000 in
set_option maxHeartbeats 3200000 in
theorem copy_any (w : World) (S : Nat → Prop) (v : Value) (p : Pool) (hS : ∀ b, S b → b < w.heap.size) (h : IsPool w S v p) (hnd : p.devs.length ≤ 1099511627776) (hmk : ∀ k, k < p.devs.length → (nth dev0 p.devs k).maps.length ≤ 2199023255552) :
    Calls Try.prog 32 #[v] w fun e w' => ∃ v', e = .returned v' ∧ IsPool w' (fun b => Btw w.heap.size w'.heap.size b ∧ Thaw w' b) v' p ∧ Below w.heap.size w w' := by
  obtain ⟨A, c, rfl, hc, hr⟩ := h
  have hB0 : Below w.heap.size w ((w.alloc (poolBox p A p.devs.length c)).alloc (.cells #[.int .i64 0, .int .i64 0, .int .i64 0, .int .i64 0, .slice none 0 0] 31)) := ((Below.refl _ _).alloc (Nat.le_refl _) _).alloc (by simp) _
  have hp1 : PBox ((w.alloc (poolBox p A p.devs.length c)).alloc (.cells #[.int .i64 0, .int .i64 0, .int .i64 0, .int .i64 0, .slice none 0 0] 31)) w.heap.size p A p.devs.length c := (PBox.new w p A p.devs.length c).below (Below.alloc (Below.refl _ _) (Nat.le_refl _) _) (by simp)
  have hz0 : ((w.alloc (poolBox p A p.devs.length c)).alloc (.cells #[.int .i64 0, .int .i64 0, .int .i64 0, .int .i64 0, .slice none 0 0] 31)).heap.size = w.heap.size + 2 := by simp
  have hd0 : ((w.alloc (poolBox p A p.devs.length c)).alloc (.cells #[.int .i64 0, .int .i64 0, .int .i64 0, .int .i64 0, .slice none 0 0] 31)).heap[w.heap.size + 1]? = some (.cells #[.int .i64 0, .int .i64 0, .int .i64 0, .int .i64 0, .slice none 0 0] 31 (0, 0)) := by
    have := heap_alloc_new (w.alloc (poolBox p A p.devs.length c)) (.cells #[.int .i64 0, .int .i64 0, .int .i64 0, .int .i64 0, .slice none 0 0] 31)
    simpa only [World.size_alloc] using this
  have hcl := cloneDevs ((w.alloc (poolBox p A p.devs.length c)).alloc (.cells #[.int .i64 0, .int .i64 0, .int .i64 0, .int .i64 0, .slice none 0 0] 31)) S (.slice A p.devs.length c) p.devs (fun b hb => by have := hS b hb; omega) ⟨A, c, rfl, hc, hr.keep rdev_stable (fun _ h => h) (keep_below hB0 hS)⟩ (by omega)
  dsimp only [poolBox] at hB0 hp1 hz0 hd0 hcl
  have HCL := Lib.hid hcl
  clear hcl
  go_enter Try.func32, Try.ntmps32
  go_wp2_with fail
  refine HCL.out.mono ?_
  rintro e w2 ⟨v2, rfl, hX, h2, hB2, xs, hown, hcs⟩
  clear hX
  have hs2 := hB2.size
  have hp2 := hp1.below hB2 (by omega)
  obtain ⟨x0, x1, x2, x3, x4⟩ := hp2.cells
  have hf : w2.frozen? ⟨w.heap.size, 4, none⟩ = false := by simp [World.frozen?, show w2.heap[w.heap.size]? = _ from hp2]
  obtain ⟨A2, c2, rfl, hc2, hr2⟩ := h2 (fun _ => True) (fun _ _ _ => trivial) (fun _ _ => trivial)
  go_wp2_with fail
  have hp3 : PBox (w2.setCell ⟨w.heap.size, 4, none⟩ (.slice A2 p.devs.length c2)) w.heap.size p A2 p.devs.length c2 := by
    unfold PBox at hp2 ⊢
    simp [World.setCell, Array.getElem?_modify, hp2]
  have hne0 : ¬ w.heap.size + 1 = w.heap.size := by omega
  have hd2 : w2.heap[w.heap.size + 1]? = _ := (hB2.block _ (by omega)).trans hd0
  have hd3 : (w2.setCell ⟨w.heap.size, 4, none⟩ (.slice A2 p.devs.length c2)).heap[w.heap.size + 1]? = _ := (Below.heap_setCell w2 ⟨w.heap.size, 4, none⟩ _ _ hne0).trans hd2
  rw [hz0] at hown
  have hown3 := hown.kept (grownBy_set w2 ⟨w.heap.size, 4, none⟩ (.slice A2 p.devs.length c2)) (.inr (fun e => by have := hown.lt _ e; simp at this; omega))
  have hB3 : Below w.heap.size w (w2.setCell ⟨w.heap.size, 4, none⟩ (.slice A2 p.devs.length c2)) := (hB0.trans (hB2.mono (by rw [hz0]; omega))).setCell (Nat.le_refl _) _
  have hcp := (CopyAt.zero (base := w.heap.size) (g := (Value.slice A2 p.devs.length c2).ownBlock) (hcs.keep rdev_stable (fun _ h => h) (keep_setCell (p := ⟨w.heap.size, 4, none⟩) (fun h => absurd (hS _ h) (by simp)) (.slice A2 p.devs.length c2))))
  have HMK := Lib.hid hmk
  generalize hw3 : w2.setCell ⟨w.heap.size, 4, none⟩ (.slice A2 p.devs.length c2) = w3 at *
  clear hw3 hown hcs h2 hr2 hp2 hd2 x0 x1 x2 x3 x4 hf hp1 hB2 hs2 hB0 hz0 hd0 hr HCL hmk hc
  generalize hn0 : p.devs.length = n at *
  have HN := Lib.hid hn0
  clear hn0
  go_loopw [11] (fun i wr => ∃ (k : Nat) (xs : List Value), k ≤ n ∧ i = .int .i64 k ∧ Below w.heap.size w wr ∧ PBox wr w.heap.size p A2 n c2 ∧ wr.heap[w.heap.size + 1]? = some (.cells #[.int .i64 0, .int .i64 0, .int .i64 0, .int .i64 0, .slice none 0 0] 31 (0, 0)) ∧ wr.ownsRow (w.heap.size + 2) 50 5 (.slice A2 n c2) n xs ∧ CopyAt wr S w.heap.size (Value.slice A2 n c2).ownBlock k p.devs xs) (fun i _ => n - (intOf i).toNat)
  case atStart => exact ⟨0, xs, by omega, rfl, hB3, hp3, hd3, hown3, hcp⟩
  case round =>
    clear hp3 hd3 hown3 hcp hB3
    obtain ⟨k, xs, hk, rfl, hB, hp, hd, hrow, hcopy⟩ := hrel
    obtain ⟨x0, x1, x2, x3, x4⟩ := hp.cells
    by_cases hlt : k < n
    · obtain ⟨g, cap, heq, hbg, hg, hcap⟩ := own_form hrow (by omega)
      simp only [Value.slice.injEq, true_and] at heq
      obtain ⟨rfl, rfl⟩ := heq
      have hkl : k < p.devs.length := by rw [HN.out]; exact hlt
      obtain ⟨A1, c1, ⟨e0, e1, e2, e3, e4⟩, hc1, hm1⟩ := hcopy.2 k hkl
      have hcell : wr.cell? ⟨g, k * 5 + 4, none⟩ = some (.slice A1 (nth dev0 p.devs k).maps.length c1) := by rw [hrow.cellAt (k * 5 + 4) (by omega)]; exact e4
      have hSw : ∀ b, S b → b < wr.heap.size := fun b hb => by have := hS b hb; have := hB.size; omega
      have hcl := cloneMaps_new wr.drew S (.slice A1 (nth dev0 p.devs k).maps.length c1) (nth dev0 p.devs k).maps hSw ⟨A1, c1, rfl, hc1, hm1.keep rmp_stable (fun b hb => by rw [if_neg (by omega)] at hb; exact hb) Keep.refl⟩ (HMK.out k hlt)
      have HCL := Lib.hid hcl
      have HCOPY := Lib.hid hcopy
      have HROW := Lib.hid hrow
      have hszw := hB.size
      have hmlen := HMK.out k hlt
      have HB := Lib.hid hB
      have hp0 := PBox.lt hp
      clear hcl hcopy e0 e1 e2 e3 e4 hm1
      generalize hml : (nth dev0 p.devs k).maps.length = ml at *
      have HML := Lib.hid hml
      clear hml
      have hown_lt : ∀ b, (Value.slice (some ⟨g, 0, none⟩) n c2).ownBlock = some b → b < wr.heap.size := fun b e => by cases e; exact hg
      go_wp2_with fail
      go_region_law (first | (go_simp; go_at_call 38; refine HCL.out.mono ?_; rintro e w5 ⟨A5, c5, rfl, hc5, hm5, hB5⟩; have hB5 := (Below.drew_left hB5); have hp5 := PBox.below hp hB5 hp0; obtain ⟨y0, y1, y2, y3, y4⟩ := hp5.cells; have hrow5 := own_below hrow hB5 hown_lt; have y5 := (hB5.cell (p := ⟨g, k * 5 + 4, none⟩) hg).trans hcell; have y6 := hrow5.frozenAt (k * 5 + 4)))
      go_wp2_with fail
      all_goals (
        refine ⟨⟨k + 1, xs.set (k * 5 + 4) (.slice A5 ml c5), by omega, by go_num, (HB.out.trans (hB5.mono hszw)).setCell (by simp only; omega) _, ?_, ?_, (hrow5.stored _ _).1, ?_⟩, by simp [intOf]; omega⟩
        · exact (Below.heap_setCell w5 ⟨g, k * 5 + 4, none⟩ _ _ (by simp; omega)).trans hp5
        · exact (Below.heap_setCell w5 ⟨g, k * 5 + 4, none⟩ _ _ (by simp; omega)).trans ((hB5.block _ (Array.getElem?_eq_some_iff.1 hd).1).trans hd)
        · have hc6 := hc5
          have hm6 := hm5
          rw [← HML.out] at hc6 ⊢
          exact CopyAt.next (g := g) HCOPY.out hS (by omega) hg hkl hB5 hc6 hm6)
    · obtain rfl : k = n := by omega
      have hdone := (HN.out ▸ hcopy).done
      have hIs := IsSl.ownThaw hrow HN.out.symm hdone (fun _ h => h) (fun b h1 h2 h3 => ⟨⟨⟨by omega, h2⟩, by omega⟩, h3⟩) rdev_stable
      have HI := Lib.hid hIs
      have hs5 := set5 hd (.int .i64 p.tx) (.int .i64 p.time) (.int .i64 p.unit) (.int .i64 p.data) (.slice A2 k c2)
      have hb5 := below5 hB (b := w.heap.size + 1) (by omega) (.int .i64 p.tx) (.int .i64 p.time) (.int .i64 p.unit) (.int .i64 p.data) (.slice A2 k c2)
      have hz5 := size5 wr (w.heap.size + 1) (.int .i64 p.tx) (.int .i64 p.time) (.int .i64 p.unit) (.int .i64 p.data) (.slice A2 k c2)
      obtain ⟨d0, d1, d2, d3, d4⟩ := cells5 hd
      have hfz : ∀ o, wr.frozen? ⟨w.heap.size + 1, o, none⟩ = false := fun o => by simp [World.frozen?, hd]
      have f0 := hfz 0
      have f1 := hfz 1
      have f2 := hfz 2
      have f3 := hfz 3
      have f4 := hfz 4
      go_wp2_with fail
      have hk5 : Keep (fun b => ((w.heap.size ≤ b ∧ b < wr.heap.size) ∧ b ≠ w.heap.size + 1) ∧ Thaw wr b) wr _ := ((((keep_setCell (w := wr) (p := ⟨w.heap.size + 1, 0, none⟩) (fun h => h.1.2 rfl) (.int .i64 p.tx)).trans (keep_setCell (p := ⟨w.heap.size + 1, 1, none⟩) (fun h => h.1.2 rfl) (.int .i64 p.time))).trans (keep_setCell (p := ⟨w.heap.size + 1, 2, none⟩) (fun h => h.1.2 rfl) (.int .i64 p.unit))).trans (keep_setCell (p := ⟨w.heap.size + 1, 3, none⟩) (fun h => h.1.2 rfl) (.int .i64 p.data))).trans (keep_setCell (p := ⟨w.heap.size + 1, 4, none⟩) (fun h => h.1.2 rfl) (.slice A2 k c2))
      have hth : ∀ b, Thaw wr b → Thaw _ b := fun b h => ((((h.set ⟨w.heap.size + 1, 0, none⟩ (.int .i64 p.tx)).set ⟨w.heap.size + 1, 1, none⟩ (.int .i64 p.time)).set ⟨w.heap.size + 1, 2, none⟩ (.int .i64 p.unit)).set ⟨w.heap.size + 1, 3, none⟩ (.int .i64 p.data)).set ⟨w.heap.size + 1, 4, none⟩ (.slice A2 k c2)
      generalize ((((wr.setCell ⟨w.heap.size + 1, 0, none⟩ (.int .i64 p.tx)).setCell ⟨w.heap.size + 1, 1, none⟩ (.int .i64 p.time)).setCell ⟨w.heap.size + 1, 2, none⟩ (.int .i64 p.unit)).setCell ⟨w.heap.size + 1, 3, none⟩ (.int .i64 p.data)).setCell ⟨w.heap.size + 1, 4, none⟩ (.slice A2 k c2) = w5 at *
      obtain ⟨r0, r1, r2, r3, r4⟩ := cells5 hs5
      refine bodyPost_ret (v := .agg #[.int .i64 p.tx, .int .i64 p.time, .int .i64 p.unit, .int .i64 p.data, .slice A2 k c2]) (by simp [results, Try.results32, go_sem, r0, r1, r2, r3, r4]) rfl ?_
      obtain ⟨A3, c3, e3, hc3, hr3⟩ := HI.out
      rw [HN.out] at e3
      obtain ⟨rfl, _, rfl⟩ := by simpa using e3
      refine ⟨_, rfl, ⟨A2, c2, by rw [HN.out], by rw [HN.out]; exact hc2, hr3.keep rdev_stable (fun b hb => ⟨⟨hb.1.1.1, by rw [hz5]; exact hb.1.1.2⟩, hth b hb.2⟩) hk5⟩, hb5⟩
end Go.Proofs.Ytolpgblegbahgaa
