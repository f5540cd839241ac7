/- rank.Before, rank.own. Condition: the pools are small. -/
import Derived.Test.YtolpgblegbahgaaWRank3
import Derived.Test.YtolpgblegbahgaaWCopy
namespace Go.Proofs.Ytolpgblegbahgaa
open Go.RowKit
attribute [local go_sem] Oper.semAt_some

theorem set8 {w : World} {b : Nat} {t : TypeId} {a0 a1 a2 a3 a4 a5 a6 a7 : Value} (h : w.heap[b]? = some (.cells #[a0, a1, a2, a3, a4, a5, a6, a7] t (0, 0))) (u0 u1 u2 u3 u4 u5 u6 u7 : Value) :
    ((((((((w.setCell ⟨b, 0, none⟩ u0).setCell ⟨b, 1, none⟩ u1).setCell ⟨b, 2, none⟩ u2).setCell ⟨b, 3, none⟩ u3).setCell ⟨b, 4, none⟩ u4).setCell ⟨b, 5, none⟩ u5).setCell ⟨b, 6, none⟩ u6).setCell ⟨b, 7, none⟩ u7).heap[b]? = some (.cells #[u0, u1, u2, u3, u4, u5, u6, u7] t (0, 0)) := by
  simp [World.setCell, Array.getElem?_modify, h]
theorem set35 {w : World} {b : Nat} {t : TypeId} {a0 a1 a2 a3 a4 a5 a6 a7 : Value} (h : w.heap[b]? = some (.cells #[a0, a1, a2, a3, a4, a5, a6, a7] t (0, 0))) (u3 u4 u5 u6 u7 : Value) :
    (((((w.setCell ⟨b, 3, none⟩ u3).setCell ⟨b, 4, none⟩ u4).setCell ⟨b, 5, none⟩ u5).setCell ⟨b, 6, none⟩ u6).setCell ⟨b, 7, none⟩ u7).heap[b]? = some (.cells #[a0, a1, a2, u3, u4, u5, u6, u7] t (0, 0)) := by
  simp [World.setCell, Array.getElem?_modify, h]
theorem below8 {w0 w : World} {B b : Nat} (h : Below B w0 w) (hb : B ≤ b) (u0 u1 u2 u3 u4 u5 u6 u7 : Value) : Below B w0 ((((((((w.setCell ⟨b, 0, none⟩ u0).setCell ⟨b, 1, none⟩ u1).setCell ⟨b, 2, none⟩ u2).setCell ⟨b, 3, none⟩ u3).setCell ⟨b, 4, none⟩ u4).setCell ⟨b, 5, none⟩ u5).setCell ⟨b, 6, none⟩ u6).setCell ⟨b, 7, none⟩ u7) :=
  (Below.setCell (p := ⟨b, 7, none⟩) (Below.setCell (p := ⟨b, 6, none⟩) (Below.setCell (p := ⟨b, 5, none⟩) (Below.setCell (p := ⟨b, 4, none⟩) (Below.setCell (p := ⟨b, 3, none⟩) (Below.setCell (p := ⟨b, 2, none⟩) (Below.setCell (p := ⟨b, 1, none⟩) (Below.setCell (p := ⟨b, 0, none⟩) h hb u0) hb u1) hb u2) hb u3) hb u4) hb u5) hb u6) hb u7)
theorem below35 {w0 w : World} {B b : Nat} (h : Below B w0 w) (hb : B ≤ b) (u3 u4 u5 u6 u7 : Value) : Below B w0 (((((w.setCell ⟨b, 3, none⟩ u3).setCell ⟨b, 4, none⟩ u4).setCell ⟨b, 5, none⟩ u5).setCell ⟨b, 6, none⟩ u6).setCell ⟨b, 7, none⟩ u7) :=
  (Below.setCell (p := ⟨b, 7, none⟩) (Below.setCell (p := ⟨b, 6, none⟩) (Below.setCell (p := ⟨b, 5, none⟩) (Below.setCell (p := ⟨b, 4, none⟩) (Below.setCell (p := ⟨b, 3, none⟩) h hb u3) hb u4) hb u5) hb u6) hb u7)
theorem size8 (w : World) (b : Nat) (u0 u1 u2 u3 u4 u5 u6 u7 : Value) : ((((((((w.setCell ⟨b, 0, none⟩ u0).setCell ⟨b, 1, none⟩ u1).setCell ⟨b, 2, none⟩ u2).setCell ⟨b, 3, none⟩ u3).setCell ⟨b, 4, none⟩ u4).setCell ⟨b, 5, none⟩ u5).setCell ⟨b, 6, none⟩ u6).setCell ⟨b, 7, none⟩ u7).heap.size = w.heap.size := by
  simp [World.setCell]
theorem size35 (w : World) (b : Nat) (u3 u4 u5 u6 u7 : Value) : (((((w.setCell ⟨b, 3, none⟩ u3).setCell ⟨b, 4, none⟩ u4).setCell ⟨b, 5, none⟩ u5).setCell ⟨b, 6, none⟩ u6).setCell ⟨b, 7, none⟩ u7).heap.size = w.heap.size := by
  simp [World.setCell]
theorem keep8 {S : Nat → Prop} (w : World) (b : Nat) (hb : ¬ S b) (u0 u1 u2 u3 u4 u5 u6 u7 : Value) : Keep S w ((((((((w.setCell ⟨b, 0, none⟩ u0).setCell ⟨b, 1, none⟩ u1).setCell ⟨b, 2, none⟩ u2).setCell ⟨b, 3, none⟩ u3).setCell ⟨b, 4, none⟩ u4).setCell ⟨b, 5, none⟩ u5).setCell ⟨b, 6, none⟩ u6).setCell ⟨b, 7, none⟩ u7) :=
  ((((((((keep_setCell (w := w) (p := ⟨b, 0, none⟩) hb u0).trans (keep_setCell (p := ⟨b, 1, none⟩) hb u1)).trans (keep_setCell (p := ⟨b, 2, none⟩) hb u2)).trans (keep_setCell (p := ⟨b, 3, none⟩) hb u3)).trans (keep_setCell (p := ⟨b, 4, none⟩) hb u4)).trans (keep_setCell (p := ⟨b, 5, none⟩) hb u5)).trans (keep_setCell (p := ⟨b, 6, none⟩) hb u6)).trans (keep_setCell (p := ⟨b, 7, none⟩) hb u7))
theorem keep35 {S : Nat → Prop} (w : World) (b : Nat) (hb : ¬ S b) (u3 u4 u5 u6 u7 : Value) : Keep S w (((((w.setCell ⟨b, 3, none⟩ u3).setCell ⟨b, 4, none⟩ u4).setCell ⟨b, 5, none⟩ u5).setCell ⟨b, 6, none⟩ u6).setCell ⟨b, 7, none⟩ u7) :=
  (((((keep_setCell (w := w) (p := ⟨b, 3, none⟩) hb u3).trans (keep_setCell (p := ⟨b, 4, none⟩) hb u4)).trans (keep_setCell (p := ⟨b, 5, none⟩) hb u5)).trans (keep_setCell (p := ⟨b, 6, none⟩) hb u6)).trans (keep_setCell (p := ⟨b, 7, none⟩) hb u7))
theorem thaw8 {w : World} {k : Nat} (h : Thaw w k) (b : Nat) (u0 u1 u2 u3 u4 u5 u6 u7 : Value) : Thaw ((((((((w.setCell ⟨b, 0, none⟩ u0).setCell ⟨b, 1, none⟩ u1).setCell ⟨b, 2, none⟩ u2).setCell ⟨b, 3, none⟩ u3).setCell ⟨b, 4, none⟩ u4).setCell ⟨b, 5, none⟩ u5).setCell ⟨b, 6, none⟩ u6).setCell ⟨b, 7, none⟩ u7) k :=
  ((((((((h.set ⟨b, 0, none⟩ u0).set ⟨b, 1, none⟩ u1).set ⟨b, 2, none⟩ u2).set ⟨b, 3, none⟩ u3).set ⟨b, 4, none⟩ u4).set ⟨b, 5, none⟩ u5).set ⟨b, 6, none⟩ u6).set ⟨b, 7, none⟩ u7)
theorem thaw35 {w : World} {k : Nat} (h : Thaw w k) (b : Nat) (u3 u4 u5 u6 u7 : Value) : Thaw (((((w.setCell ⟨b, 3, none⟩ u3).setCell ⟨b, 4, none⟩ u4).setCell ⟨b, 5, none⟩ u5).setCell ⟨b, 6, none⟩ u6).setCell ⟨b, 7, none⟩ u7) k :=
  (((((h.set ⟨b, 3, none⟩ u3).set ⟨b, 4, none⟩ u4).set ⟨b, 5, none⟩ u5).set ⟨b, 6, none⟩ u6).set ⟨b, 7, none⟩ u7)
theorem cells8 {w : World} {b : Nat} {t : TypeId} {a0 a1 a2 a3 a4 a5 a6 a7 : Value} (h : w.heap[b]? = some (.cells #[a0, a1, a2, a3, a4, a5, a6, a7] t (0, 0))) :
    (w.cell? ⟨b, 0, none⟩ = some a0 ∧ w.cell? ⟨b, 1, none⟩ = some a1 ∧ w.cell? ⟨b, 2, none⟩ = some a2 ∧ w.cell? ⟨b, 3, none⟩ = some a3 ∧ w.cell? ⟨b, 4, none⟩ = some a4 ∧ w.cell? ⟨b, 5, none⟩ = some a5 ∧ w.cell? ⟨b, 6, none⟩ = some a6 ∧ w.cell? ⟨b, 7, none⟩ = some a7) ∧ w.frozen? ⟨b, 0, none⟩ = false ∧ w.frozen? ⟨b, 1, none⟩ = false ∧ w.frozen? ⟨b, 2, none⟩ = false ∧ w.frozen? ⟨b, 3, none⟩ = false ∧ w.frozen? ⟨b, 4, none⟩ = false ∧ w.frozen? ⟨b, 5, none⟩ = false ∧ w.frozen? ⟨b, 6, none⟩ = false ∧ w.frozen? ⟨b, 7, none⟩ = false := by
  simp [World.cell?, World.frozen?, h]

theorem far35 (w : World) {b k : Nat} (hb : k ≠ b) (u3 u4 u5 u6 u7 : Value) : (((((w.setCell ⟨b, 3, none⟩ u3).setCell ⟨b, 4, none⟩ u4).setCell ⟨b, 5, none⟩ u5).setCell ⟨b, 6, none⟩ u6).setCell ⟨b, 7, none⟩ u7).heap[k]? = w.heap[k]? := by
  rw [Below.heap_setCell _ _ _ _ (by exact hb), Below.heap_setCell _ _ _ _ (by exact hb), Below.heap_setCell _ _ _ _ (by exact hb), Below.heap_setCell _ _ _ _ (by exact hb), Below.heap_setCell _ _ _ _ (by exact hb)]

theorem before_any (w : World) (S1 S2 : Nat → Prop) (v1 v2 : Value) (x y : Cand) (hS1 : ∀ b, S1 b → b < w.heap.size) (hS2 : ∀ b, S2 b → b < w.heap.size) (h1 : IsCand w S1 v1 x) (h2 : IsCand w S2 v2 y) (hx : x.few) (hy : y.few) :
    Calls Try.prog 8 #[v1, v2] w fun e w' => e = .returned (.bool (decide (cmpC x y < 0))) ∧ Below w.heap.size w w' := by
  have hcm := fun w' (hB : Below w.heap.size w w') => compare_any w' S1 S2 _ _ x y (fun b hb => Nat.lt_of_lt_of_le (hS1 b hb) hB.size) (fun b hb => Nat.lt_of_lt_of_le (hS2 b hb) hB.size) (h1.below hB hS1) (h2.below hB hS2) hx hy
  obtain ⟨A1, n1, rfl, _, _⟩ := h1
  obtain ⟨A2, n2, rfl, _, _⟩ := h2
  have hB2 : Below w.heap.size w ((w.alloc (candBox x A1 n1)).alloc (candBox y A2 n2)) := ((Below.refl _ _).alloc (Nat.le_refl _) _).alloc (by simp) _
  have HCM := Lib.hid hcm
  clear hcm
  dsimp only [candBox, candV, Cand.cells] at hB2 HCM ⊢
  go_enter Try.func8, Try.ntmps8
  go_wp2_with (go_at_call 14; refine (HCM.out _ hB2).mono ?_; rintro e w3 ⟨rfl, hB3⟩; have hB4 := hB2.trans (hB3.mono hB2.size))
  go_ret
  exact ⟨rfl, hB4⟩

set_option maxRecDepth 100000 in
set_option maxHeartbeats 1600000 in
theorem own_any (w : World) (S : Nat → Prop) (v : Value) (x : Cand) (hS : ∀ b, S b → b < w.heap.size) (h : IsCand w S v x) (hnd : x.pool.devs.length ≤ 1099511627776) (hmk : ∀ k, k < x.pool.devs.length → (nth dev0 x.pool.devs k).maps.length ≤ 2199023255552) :
    Calls Try.prog 16 #[v] w fun e w' => ∃ v', e = .returned v' ∧ IsCand w' (fun b => Btw w.heap.size w'.heap.size b ∧ Thaw w' b) v' x ∧ Below w.heap.size w w' := by
  have h0 := h
  obtain ⟨A, n, rfl, hn, hr⟩ := h
  have hB2 : Below w.heap.size w ((w.alloc (candBox x A n)).alloc (candBox ⟨false, 0, 0, ⟨0, 0, 0, 0, []⟩⟩ none 0)) := ((Below.refl _ _).alloc (Nat.le_refl _) _).alloc (by simp) _
  have hc1 : CBox ((w.alloc (candBox x A n)).alloc (candBox ⟨false, 0, 0, ⟨0, 0, 0, 0, []⟩⟩ none 0)) w.heap.size x A n := (CBox.new w x A n).below (Below.alloc (Below.refl _ _) (Nat.le_refl _) _) (by simp)
  have hc2 : ((w.alloc (candBox x A n)).alloc (candBox ⟨false, 0, 0, ⟨0, 0, 0, 0, []⟩⟩ none 0)).heap[w.heap.size + 1]? = some (candBox ⟨false, 0, 0, ⟨0, 0, 0, 0, []⟩⟩ none 0) := by
    have := heap_alloc_new (w.alloc (candBox x A n)) (candBox ⟨false, 0, 0, ⟨0, 0, 0, 0, []⟩⟩ none 0)
    simpa only [World.size_alloc] using this
  have hcp := copy_any ((w.alloc (candBox x A n)).alloc (candBox ⟨false, 0, 0, ⟨0, 0, 0, 0, []⟩⟩ none 0)) S _ x.pool (fun b hb => by have := hS b hb; simp; omega) ((h0.below hB2 hS).pool) hnd hmk
  have HCP := Lib.hid hcp
  clear hcp hr
  dsimp only [candBox, candV, Cand.cells, List.length_nil] at hB2 hc1 hc2 HCP ⊢
  go_enter Try.func16, Try.ntmps16
  go_wp2_with (go_at_call 32; refine HCP.out.mono ?_; rintro e w3 ⟨v3, rfl, ⟨A3, n3, rfl, hn3, hr3⟩, hB3⟩; have hd1 := hc1.below hB3 (by simp; omega); have hd2 := (hB3.block (w.heap.size + 1) (by simp)).trans hc2; obtain ⟨⟨x0, x1, x2, x3, x4, x5, x6, x7⟩, x8, x9, xa, xb, xc, xd, xe, xf⟩ := cells8 (show w3.heap[w.heap.size]? = _ from hd1); obtain ⟨⟨y0, y1, y2, y3, y4, y5, y6, y7⟩, y8, y9, ya, yb, yc, yd, ye, yf⟩ := cells8 hd2; have hne : ¬ w.heap.size = w.heap.size + 1 := (by omega))
  have hz8 := (size8 (((((w3.setCell ⟨w.heap.size, 3, none⟩ (.int .i64 x.pool.tx)).setCell ⟨w.heap.size, 4, none⟩ (.int .i64 x.pool.time)).setCell ⟨w.heap.size, 5, none⟩ (.int .i64 x.pool.unit)).setCell ⟨w.heap.size, 6, none⟩ (.int .i64 x.pool.data)).setCell ⟨w.heap.size, 7, none⟩ (.slice A3 x.pool.devs.length n3)) (w.heap.size + 1) (.bool x.super) (.int .i64 x.top) (.int .i64 x.details) (.int .i64 x.pool.tx) (.int .i64 x.pool.time) (.int .i64 x.pool.unit) (.int .i64 x.pool.data) (.slice A3 x.pool.devs.length n3)).trans (size35 w3 w.heap.size (.int .i64 x.pool.tx) (.int .i64 x.pool.time) (.int .i64 x.pool.unit) (.int .i64 x.pool.data) (.slice A3 x.pool.devs.length n3))
  have hs8 := set8 ((far35 w3 (b := w.heap.size) (k := w.heap.size + 1) (by omega) (.int .i64 x.pool.tx) (.int .i64 x.pool.time) (.int .i64 x.pool.unit) (.int .i64 x.pool.data) (.slice A3 x.pool.devs.length n3)).trans hd2) (.bool x.super) (.int .i64 x.top) (.int .i64 x.details) (.int .i64 x.pool.tx) (.int .i64 x.pool.time) (.int .i64 x.pool.unit) (.int .i64 x.pool.data) (.slice A3 x.pool.devs.length n3)
  have hb8 := below8 (below35 (hB2.trans (hB3.mono (by simp; omega))) (b := w.heap.size) (Nat.le_refl _) (.int .i64 x.pool.tx) (.int .i64 x.pool.time) (.int .i64 x.pool.unit) (.int .i64 x.pool.data) (.slice A3 x.pool.devs.length n3)) (b := w.heap.size + 1) (by omega) (.bool x.super) (.int .i64 x.top) (.int .i64 x.details) (.int .i64 x.pool.tx) (.int .i64 x.pool.time) (.int .i64 x.pool.unit) (.int .i64 x.pool.data) (.slice A3 x.pool.devs.length n3)
  have hk8 := (keep35 (S := fun b => Btw (w.heap.size + 2) w3.heap.size b ∧ Thaw w3 b) w3 w.heap.size (fun h => by have h1 : w.heap.size + 2 ≤ w.heap.size := h.1.1; omega) (.int .i64 x.pool.tx) (.int .i64 x.pool.time) (.int .i64 x.pool.unit) (.int .i64 x.pool.data) (.slice A3 x.pool.devs.length n3)).trans (keep8 (S := fun b => Btw (w.heap.size + 2) w3.heap.size b ∧ Thaw w3 b) (((((w3.setCell ⟨w.heap.size, 3, none⟩ (.int .i64 x.pool.tx)).setCell ⟨w.heap.size, 4, none⟩ (.int .i64 x.pool.time)).setCell ⟨w.heap.size, 5, none⟩ (.int .i64 x.pool.unit)).setCell ⟨w.heap.size, 6, none⟩ (.int .i64 x.pool.data)).setCell ⟨w.heap.size, 7, none⟩ (.slice A3 x.pool.devs.length n3)) (w.heap.size + 1) (fun h => by have h1 : w.heap.size + 2 ≤ w.heap.size + 1 := h.1.1; omega) (.bool x.super) (.int .i64 x.top) (.int .i64 x.details) (.int .i64 x.pool.tx) (.int .i64 x.pool.time) (.int .i64 x.pool.unit) (.int .i64 x.pool.data) (.slice A3 x.pool.devs.length n3))
  have ht8 : ∀ k, Thaw w3 k → Thaw _ k := fun k h => thaw8 (thaw35 h w.heap.size (.int .i64 x.pool.tx) (.int .i64 x.pool.time) (.int .i64 x.pool.unit) (.int .i64 x.pool.data) (.slice A3 x.pool.devs.length n3)) (w.heap.size + 1) (.bool x.super) (.int .i64 x.top) (.int .i64 x.details) (.int .i64 x.pool.tx) (.int .i64 x.pool.time) (.int .i64 x.pool.unit) (.int .i64 x.pool.data) (.slice A3 x.pool.devs.length n3)
  generalize (((((((((((((w3.setCell ⟨w.heap.size, 3, none⟩ (.int .i64 x.pool.tx)).setCell ⟨w.heap.size, 4, none⟩ (.int .i64 x.pool.time)).setCell ⟨w.heap.size, 5, none⟩ (.int .i64 x.pool.unit)).setCell ⟨w.heap.size, 6, none⟩ (.int .i64 x.pool.data)).setCell ⟨w.heap.size, 7, none⟩ (.slice A3 x.pool.devs.length n3)).setCell ⟨w.heap.size + 1, 0, none⟩ (.bool x.super)).setCell ⟨w.heap.size + 1, 1, none⟩ (.int .i64 x.top)).setCell ⟨w.heap.size + 1, 2, none⟩ (.int .i64 x.details)).setCell ⟨w.heap.size + 1, 3, none⟩ (.int .i64 x.pool.tx)).setCell ⟨w.heap.size + 1, 4, none⟩ (.int .i64 x.pool.time)).setCell ⟨w.heap.size + 1, 5, none⟩ (.int .i64 x.pool.unit)).setCell ⟨w.heap.size + 1, 6, none⟩ (.int .i64 x.pool.data)).setCell ⟨w.heap.size + 1, 7, none⟩ (.slice A3 x.pool.devs.length n3)) = w5 at *
  obtain ⟨⟨r0, r1, r2, r3, r4, r5, r6, r7⟩, _⟩ := cells8 hs8
  refine bodyPost_ret (v := .agg #[.bool x.super, .int .i64 x.top, .int .i64 x.details, .int .i64 x.pool.tx, .int .i64 x.pool.time, .int .i64 x.pool.unit, .int .i64 x.pool.data, .slice A3 x.pool.devs.length n3]) (by simp [results, Try.results16, go_sem, r0, r1, r2, r3, r4, r5, r6, r7]) rfl ?_
  simp only [World.size_alloc] at hr3
  refine ⟨_, rfl, ⟨A3, n3, rfl, hn3, hr3.keep rdev_stable (fun b hb => ⟨⟨by have h1 : w.heap.size + 1 + 1 ≤ b := hb.1.1; omega, by have h2 : b < w3.heap.size := hb.1.2; omega⟩, ht8 b hb.2⟩) hk8⟩, hb8⟩
end Go.Proofs.Ytolpgblegbahgaa
