/- scantlingref36.Before: whether a candidate is ahead of another one. Condition: the pools are small. -/
import Derived.Test.YtolpgblegbahgaaWRNum
namespace Go.Proofs.Ytolpgblegbahgaa
open Go.RowKit
attribute [local go_sem] Oper.semAt_some
set_option linter.unusedVariables false
set_option linter.unusedSimpArgs false

theorem NumsAt.at {w : World} {g : Nat} {c : Cand} (h : NumsAt w g c) {k : Nat} (hk : k < 4) : w.cell? ⟨g, k, none⟩ = some (.int .i64 (nth 0 (nums c) k)) := by
  unfold NumsAt at h
  have : k = 0 ∨ k = 1 ∨ k = 2 ∨ k = 3 := by omega
  rcases this with rfl | rfl | rfl | rfl <;> simp [World.cell?, h, nums, nth]
theorem first_super (c : Cand) : firstI c = 1 - superI c := by unfold firstI superI; split <;> rfl
theorem neg_gt {a b : Int} (h : a ≠ b) : (decide (cmpI b a < 0)) = decide (a > b) := by
  unfold cmpI
  by_cases h1 : b < a
  · simp [h1]
  · have : b > a := by omega
    simp [h1, this]
theorem before_nums (x y : Cand) {k : Nat} (hk : k < 4) (he : ∀ j, j < k → nth 0 (nums x) j = nth 0 (nums y) j) (hn : nth 0 (nums x) k ≠ nth 0 (nums y) k) : decide (cmpC x y < 0) = decide (nth 0 (nums x) k > nth 0 (nums y) k) := by
  have e0 : 0 < k → superI x = superI y := fun h => by simpa [nums, nth] using he 0 h
  have e1 : 1 < k → x.pool.latest = y.pool.latest := fun h => by simpa [nums, nth] using he 1 h
  have e2 : 2 < k → (x.pool.devs.length : Int) = y.pool.devs.length := fun h => by simpa [nums, nth] using he 2 h
  have hc : k = 0 ∨ k = 1 ∨ k = 2 ∨ k = 3 := by omega
  unfold cmpC cmpL
  rw [first_super, first_super]
  rcases hc with rfl | rfl | rfl | rfl
  · simp only [nums, nth, List.getD_cons_zero, List.getD_cons_succ] at hn ⊢
    have h0 : cmpI (1 - superI x) (1 - superI y) ≠ 0 := fun h => hn (by have := cmpI_zero h; omega)
    simp only [orI, if_neg h0]
    rw [neg_gt (by omega)]
    by_cases h : superI x > superI y
    · simp [h]
      try omega
    · simp [h]
      try omega
  · simp only [nums, nth, List.getD_cons_zero, List.getD_cons_succ] at hn ⊢
    have h0 : cmpI y.pool.latest x.pool.latest ≠ 0 := fun h => hn (cmpI_zero h).symm
    rw [e0 (by omega)]
    simp only [orI, cmpI_self, if_true, if_neg h0]
    exact neg_gt hn
  · simp only [nums, nth, List.getD_cons_zero, List.getD_cons_succ] at hn ⊢
    have h0 : cmpI (y.pool.devs.length : Int) x.pool.devs.length ≠ 0 := fun h => hn (cmpI_zero h).symm
    rw [e0 (by omega), e1 (by omega)]
    simp only [orI, cmpI_self, if_true, if_neg h0]
    exact neg_gt hn
  · simp only [nums, nth, List.getD_cons_zero, List.getD_cons_succ] at hn ⊢
    have h0 : cmpI y.pool.count x.pool.count ≠ 0 := fun h => hn (cmpI_zero h).symm
    rw [e0 (by omega), e1 (by omega), e2 (by omega)]
    simp only [orI, cmpI_self, if_true, if_neg h0]
    exact neg_gt hn
theorem before_rest (x y : Cand) (he : ∀ j, j < 4 → nth 0 (nums x) j = nth 0 (nums y) j) : decide (cmpC x y < 0) = if x.top = y.top then decide (x.details < y.details) else decide (x.top < y.top) := by
  have e0 : superI x = superI y := by simpa [nums, nth] using he 0 (by omega)
  have e1 : x.pool.latest = y.pool.latest := by simpa [nums, nth] using he 1 (by omega)
  have e2 : (x.pool.devs.length : Int) = y.pool.devs.length := by simpa [nums, nth] using he 2 (by omega)
  have e3 : x.pool.count = y.pool.count := by simpa [nums, nth] using he 3 (by omega)
  unfold cmpC cmpL
  rw [first_super, first_super, e0, e1, e2, e3]
  simp only [orI, cmpI_self, if_true]
  by_cases ht : x.top = y.top
  · rw [ht]
    simp only [cmpI_self, if_true]
    by_cases hd : x.details = y.details
    · rw [hd]; simp [cmpI_self]
    · have h0 : cmpI x.details y.details ≠ 0 := fun h => hd (cmpI_zero h)
      simp only [if_neg h0]
      rw [neg_gt (fun h => hd h.symm)]
      try rfl
  · have h0 : cmpI x.top y.top ≠ 0 := fun h => ht (cmpI_zero h)
    simp only [if_neg h0, if_neg ht]
    rw [neg_gt (fun h => ht h.symm)]
    try rfl
theorem below_drewN {B : Nat} {a w : World} (h : Below B a w) (n : Nat) : Below B a (w.drewN n) := ⟨h.os, h.tape, h.output, h.size, h.block⟩
theorem ret_boolE {p q : Bool} (h : p = q) : Ending.returned (.bool p) = Ending.returned (.bool q) := by rw [h]
set_option maxRecDepth 100000 in
set_option maxHeartbeats 3200000 in
theorem rbefore_any (w : World) (S1 S2 : Nat → Prop) (v1 v2 : Value) (x y : Cand) (hS1 : ∀ b, S1 b → b < w.heap.size) (hS2 : ∀ b, S2 b → b < w.heap.size) (h1 : IsCand w S1 v1 x) (h2 : IsCand w S2 v2 y) (hx : x.few) (hy : y.few) :
    Calls Try.prog 9 #[v1, v2] w fun e w' => e = .returned (.bool (decide (cmpC x y < 0))) ∧ Below w.heap.size w w' := by
  have h10 := h1
  have h20 := h2
  obtain ⟨A1, n1, rfl, _, _⟩ := h1
  obtain ⟨A2, n2, rfl, _, _⟩ := h2
  obtain ⟨wB, hwB⟩ : ∃ wB, (w.alloc (.cells (x.cells A1 n1) 35)).alloc (.cells (y.cells A2 n2) 35) = wB := ⟨_, rfl⟩
  have hB2 : Below w.heap.size w wB := by rw [← hwB]; exact ((Below.refl _ _).alloc (Nat.le_refl _) _).alloc (by simp) _
  have hbx : CBoxT 35 wB w.heap.size x A1 n1 := by
    rw [← hwB]
    exact (Below.heap_alloc _ _ _ (by simp)).trans (heap_alloc_new w _)
  have hby : CBoxT 35 wB (w.heap.size + 1) y A2 n2 := by
    rw [← hwB]
    have := heap_alloc_new (w.alloc (.cells (x.cells A1 n1) 35)) (.cells (y.cells A2 n2) 35)
    rw [World.size_alloc] at this
    exact this
  have hzB : wB.heap.size = w.heap.size + 2 := by rw [← hwB]; simp
  have HC := Lib.hid (fun w' (hB : Below wB.heap.size wB w') => And.intro (CBoxT.cells ((hB.block w.heap.size (by omega)).trans hbx)) (CBoxT.cells ((hB.block (w.heap.size + 1) (by omega)).trans hby)))
  have HN1 := Lib.hid (fun w' (hB : Below wB.heap.size wB w') => rnumbers_any w' S1 _ x (fun b hb => by have := hS1 b hb; have := hB.size; omega) (h10.below (hB2.trans (hB.mono hB2.size)) hS1) hx)
  have HN2 := Lib.hid (fun w' (hB : Below wB.heap.size wB w') => rnumbers_any w' S2 _ y (fun b hb => by have := hS2 b hb; have := hB.size; omega) (h20.below (hB2.trans (hB.mono hB2.size)) hS2) hy)
  clear h10 h20 hbx hby
  obtain ⟨⟨c0, c1, c2, c3, c4, c5, c6, c7⟩, d0, d1, d2, d3, d4, d5, d6, d7⟩ := HC.out wB (Below.refl _ _)
  dsimp only [candV, Cand.cells] at hwB HN1 HN2 ⊢
  go_enter Try.func9, Try.ntmps9
  go_upto_region 1 with fail
  clear hwB
  have kk0 := Below.refl wB.heap.size wB
  go_wp2_with (first | (go_at_call 15; (have hx := HN1.out _ kk0; with_reducible refine hx.mono ?_; clear hx); rintro e w3 ⟨g1, rfl, hg1, hn1, hB3⟩; have kk1 := kk0.trans (hB3.mono kk0.size); obtain ⟨⟨c0, c1, c2, c3, c4, c5, c6, c7⟩, d0, d1, d2, d3, d4, d5, d6, d7⟩ := HC.out _ kk1) | (go_at_call 15; (have hx := HN2.out _ kk1; with_reducible refine hx.mono ?_; clear hx); rintro e w4 ⟨g2, rfl, hg2, hn2, hB4⟩; have kk2 := kk1.trans (hB4.mono kk1.size); obtain ⟨⟨c0, c1, c2, c3, c4, c5, c6, c7⟩, d0, d1, d2, d3, d4, d5, d6, d7⟩ := HC.out _ kk2))
  have hz3 := kk1.size
  have hz4 := kk2.size
  have HN : Hid (∀ w', Below w4.heap.size w4 w' → ∀ k, k < 4 → w'.cell? ⟨g1, k, none⟩ = some (.int .i64 (nth 0 (nums x) k)) ∧ w'.cell? ⟨g2, k, none⟩ = some (.int .i64 (nth 0 (nums y) k))) := fun w' hB k hk => by
    have l1 : g1 < w3.heap.size := (Array.getElem?_eq_some_iff.1 hn1).1
    have l2 : g2 < w4.heap.size := (Array.getElem?_eq_some_iff.1 hn2).1
    have q1 : NumsAt w' g1 x := (hB.block g1 (Nat.lt_of_lt_of_le l1 hB4.size)).trans ((hB4.block g1 l1).trans hn1)
    have q2 : NumsAt w' g2 y := (hB.block g2 l2).trans hn2
    exact ⟨q1.at hk, q2.at hk⟩
  clear hn1 hn2 hB3 hB4 HN1 HN2 c0 c1 c2 c3 c4 c5 c6 c7 d0 d1 d2 d3 d4 d5 d6 d7
  go_loopw [7] (fun vi wr => ∃ k : Nat, vi = .int .i64 k ∧ k ≤ 4 ∧ Hid (∀ j, j < k → nth 0 (nums x) j = nth 0 (nums y) j) ∧ Below w4.heap.size w4 wr) (fun vi _ => 4 - (intOf vi).toNat)
  case atStart => exact ⟨0, rfl, by omega, fun j hj => by omega, Below.refl _ _⟩
  case round =>
    obtain ⟨k, rfl, hk, HE, hB⟩ := hrel
    by_cases hk4 : k < 4
    · obtain ⟨n1, n2⟩ := HN.out wr hB k hk4
      have hkz : (k : Int) < 4 := by omega
      by_cases he : nth 0 (nums x) k = nth 0 (nums y) k
      · have HE2 : Hid (∀ j, j < k + 1 → nth 0 (nums x) j = nth 0 (nums y) j) := fun j hj => by
          by_cases h : j < k
          · exact HE.out j h
          · obtain rfl : j = k := by omega
            exact he
        rw [← he] at n2
        clear he
        generalize nth 0 (nums x) k = p at *
        go_wp2_with fail
        go_quiet (fail)
        go_wp2_with fail
        go_round
        case rel => exact ⟨k + 1, by go_num, by omega, HE2, below_drewN hB _⟩
        case measure => simp [intOf]; omega
      · have HF := Lib.hid (before_nums x y hk4 HE.out he)
        generalize nth 0 (nums x) k = p at *
        generalize nth 0 (nums y) k = q at *
        go_wp2_with fail
        go_quiet (fail)
        go_wp2_with fail
        go_quiet (fail)
        go_wp2_with fail
        go_ret
        exact ⟨ret_boolE HF.out.symm, hB2.trans (Below.mono (kk2.trans (Below.mono (below_drewN (below_drewN hB _) _) kk2.size)) hB2.size)⟩
    · obtain rfl : k = 4 := by omega
      have HF := Lib.hid (before_rest x y HE.out)
      obtain ⟨⟨c0, c1, c2, c3, c4, c5, c6, c7⟩, d0, d1, d2, d3, d4, d5, d6, d7⟩ := HC.out _ (kk2.trans (hB.mono kk2.size))
      have HB := Lib.hid (hB2.trans (Below.mono (kk2.trans (Below.mono hB kk2.size)) hB2.size))
      by_cases ht : x.top = y.top
      · have HF2 : Hid (decide (x.details < y.details) = decide (cmpC x y < 0)) := by show _ = _; rw [HF.out, if_pos ht]
        go_wp2_with fail
        go_ret
        exact ⟨ret_boolE HF2.out, HB.out⟩
      · have HF2 : Hid (decide (x.top < y.top) = decide (cmpC x y < 0)) := by show _ = _; rw [HF.out, if_neg ht]
        go_wp2_with fail
        go_ret
        exact ⟨ret_boolE HF2.out, HB.out⟩
end Go.Proofs.Ytolpgblegbahgaa
