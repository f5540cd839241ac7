/- rank.compare: which of two candidates is ahead. Condition: the pools are small. -/
import Derived.Test.YtolpgblegbahgaaWRank2
namespace Go.Proofs.Ytolpgblegbahgaa
open Go.RowKit

set_option maxRecDepth 100000 in
set_option maxHeartbeats 3200000 in
theorem compare_any (w : World) (S1 S2 : Nat → Prop) (v1 v2 : Value) (x y : Cand) (hS1 : ∀ b, S1 b → b < w.heap.size) (hS2 : ∀ b, S2 b → b < w.heap.size) (h1 : IsCand w S1 v1 x) (h2 : IsCand w S2 v2 y) (hx : x.few) (hy : y.few) :
    Calls Try.prog 14 #[v1, v2] w fun e w' => e = .returned (.int .i64 (cmpC x y)) ∧ Below w.heap.size w w' := by
  have h1' := h1
  have h2' := h2
  obtain ⟨A1, n1, rfl, _, _⟩ := h1
  obtain ⟨A2, n2, rfl, _, _⟩ := h2
  have hB3 : Below w.heap.size w (((w.alloc (candBox x A1 n1)).alloc (candBox y A2 n2)).alloc (.cells #[.func (.func 20) #[] #[.pointer (some ⟨w.heap.size, 0, none⟩), .pointer (some ⟨w.heap.size + 1, 0, none⟩)], .func (.func 23) #[] #[.pointer (some ⟨w.heap.size + 1, 0, none⟩), .pointer (some ⟨w.heap.size, 0, none⟩)], .func (.func 25) #[] #[.pointer (some ⟨w.heap.size + 1, 0, none⟩), .pointer (some ⟨w.heap.size, 0, none⟩)], .func (.func 26) #[] #[.pointer (some ⟨w.heap.size + 1, 0, none⟩), .pointer (some ⟨w.heap.size, 0, none⟩)], .func (.func 28) #[] #[.pointer (some ⟨w.heap.size, 0, none⟩), .pointer (some ⟨w.heap.size + 1, 0, none⟩)], .func (.func 29) #[] #[.pointer (some ⟨w.heap.size, 0, none⟩), .pointer (some ⟨w.heap.size + 1, 0, none⟩)]] 53)) := (((Below.refl _ _).alloc (Nat.le_refl _) _).alloc (by simp) _).alloc (by simp; omega) _
  have hc1 : CBox (((w.alloc (candBox x A1 n1)).alloc (candBox y A2 n2)).alloc (.cells #[.func (.func 20) #[] #[.pointer (some ⟨w.heap.size, 0, none⟩), .pointer (some ⟨w.heap.size + 1, 0, none⟩)], .func (.func 23) #[] #[.pointer (some ⟨w.heap.size + 1, 0, none⟩), .pointer (some ⟨w.heap.size, 0, none⟩)], .func (.func 25) #[] #[.pointer (some ⟨w.heap.size + 1, 0, none⟩), .pointer (some ⟨w.heap.size, 0, none⟩)], .func (.func 26) #[] #[.pointer (some ⟨w.heap.size + 1, 0, none⟩), .pointer (some ⟨w.heap.size, 0, none⟩)], .func (.func 28) #[] #[.pointer (some ⟨w.heap.size, 0, none⟩), .pointer (some ⟨w.heap.size + 1, 0, none⟩)], .func (.func 29) #[] #[.pointer (some ⟨w.heap.size, 0, none⟩), .pointer (some ⟨w.heap.size + 1, 0, none⟩)]] 53)) w.heap.size x A1 n1 := ((CBox.new w x A1 n1).below (Below.alloc (Below.refl _ _) (Nat.le_refl _) _) (by simp)).below (Below.alloc (Below.refl _ _) (Nat.le_refl _) _) (by simp; omega)
  have hc2 : CBox (((w.alloc (candBox x A1 n1)).alloc (candBox y A2 n2)).alloc (.cells #[.func (.func 20) #[] #[.pointer (some ⟨w.heap.size, 0, none⟩), .pointer (some ⟨w.heap.size + 1, 0, none⟩)], .func (.func 23) #[] #[.pointer (some ⟨w.heap.size + 1, 0, none⟩), .pointer (some ⟨w.heap.size, 0, none⟩)], .func (.func 25) #[] #[.pointer (some ⟨w.heap.size + 1, 0, none⟩), .pointer (some ⟨w.heap.size, 0, none⟩)], .func (.func 26) #[] #[.pointer (some ⟨w.heap.size + 1, 0, none⟩), .pointer (some ⟨w.heap.size, 0, none⟩)], .func (.func 28) #[] #[.pointer (some ⟨w.heap.size, 0, none⟩), .pointer (some ⟨w.heap.size + 1, 0, none⟩)], .func (.func 29) #[] #[.pointer (some ⟨w.heap.size, 0, none⟩), .pointer (some ⟨w.heap.size + 1, 0, none⟩)]] 53)) (w.heap.size + 1) y A2 n2 := by
    have := (CBox.new (w.alloc (candBox x A1 n1)) y A2 n2).below (Below.alloc (Below.refl _ _) (Nat.le_refl _) (.cells #[.func (.func 20) #[] #[.pointer (some ⟨w.heap.size, 0, none⟩), .pointer (some ⟨w.heap.size + 1, 0, none⟩)], .func (.func 23) #[] #[.pointer (some ⟨w.heap.size + 1, 0, none⟩), .pointer (some ⟨w.heap.size, 0, none⟩)], .func (.func 25) #[] #[.pointer (some ⟨w.heap.size + 1, 0, none⟩), .pointer (some ⟨w.heap.size, 0, none⟩)], .func (.func 26) #[] #[.pointer (some ⟨w.heap.size + 1, 0, none⟩), .pointer (some ⟨w.heap.size, 0, none⟩)], .func (.func 28) #[] #[.pointer (some ⟨w.heap.size, 0, none⟩), .pointer (some ⟨w.heap.size + 1, 0, none⟩)], .func (.func 29) #[] #[.pointer (some ⟨w.heap.size, 0, none⟩), .pointer (some ⟨w.heap.size + 1, 0, none⟩)]] 53)) (by simp)
    simpa only [World.size_alloc] using this
  have hfn : (((w.alloc (candBox x A1 n1)).alloc (candBox y A2 n2)).alloc (.cells #[.func (.func 20) #[] #[.pointer (some ⟨w.heap.size, 0, none⟩), .pointer (some ⟨w.heap.size + 1, 0, none⟩)], .func (.func 23) #[] #[.pointer (some ⟨w.heap.size + 1, 0, none⟩), .pointer (some ⟨w.heap.size, 0, none⟩)], .func (.func 25) #[] #[.pointer (some ⟨w.heap.size + 1, 0, none⟩), .pointer (some ⟨w.heap.size, 0, none⟩)], .func (.func 26) #[] #[.pointer (some ⟨w.heap.size + 1, 0, none⟩), .pointer (some ⟨w.heap.size, 0, none⟩)], .func (.func 28) #[] #[.pointer (some ⟨w.heap.size, 0, none⟩), .pointer (some ⟨w.heap.size + 1, 0, none⟩)], .func (.func 29) #[] #[.pointer (some ⟨w.heap.size, 0, none⟩), .pointer (some ⟨w.heap.size + 1, 0, none⟩)]] 53)).heap[w.heap.size + 2]? = some (.cells #[.func (.func 20) #[] #[.pointer (some ⟨w.heap.size, 0, none⟩), .pointer (some ⟨w.heap.size + 1, 0, none⟩)], .func (.func 23) #[] #[.pointer (some ⟨w.heap.size + 1, 0, none⟩), .pointer (some ⟨w.heap.size, 0, none⟩)], .func (.func 25) #[] #[.pointer (some ⟨w.heap.size + 1, 0, none⟩), .pointer (some ⟨w.heap.size, 0, none⟩)], .func (.func 26) #[] #[.pointer (some ⟨w.heap.size + 1, 0, none⟩), .pointer (some ⟨w.heap.size, 0, none⟩)], .func (.func 28) #[] #[.pointer (some ⟨w.heap.size, 0, none⟩), .pointer (some ⟨w.heap.size + 1, 0, none⟩)], .func (.func 29) #[] #[.pointer (some ⟨w.heap.size, 0, none⟩), .pointer (some ⟨w.heap.size + 1, 0, none⟩)]] 53 (0, 0)) := by
    have := heap_alloc_new ((w.alloc (candBox x A1 n1)).alloc (candBox y A2 n2)) (.cells #[.func (.func 20) #[] #[.pointer (some ⟨w.heap.size, 0, none⟩), .pointer (some ⟨w.heap.size + 1, 0, none⟩)], .func (.func 23) #[] #[.pointer (some ⟨w.heap.size + 1, 0, none⟩), .pointer (some ⟨w.heap.size, 0, none⟩)], .func (.func 25) #[] #[.pointer (some ⟨w.heap.size + 1, 0, none⟩), .pointer (some ⟨w.heap.size, 0, none⟩)], .func (.func 26) #[] #[.pointer (some ⟨w.heap.size + 1, 0, none⟩), .pointer (some ⟨w.heap.size, 0, none⟩)], .func (.func 28) #[] #[.pointer (some ⟨w.heap.size, 0, none⟩), .pointer (some ⟨w.heap.size + 1, 0, none⟩)], .func (.func 29) #[] #[.pointer (some ⟨w.heap.size, 0, none⟩), .pointer (some ⟨w.heap.size + 1, 0, none⟩)]] 53)
    simpa only [World.size_alloc] using this
  dsimp only [candBox, Cand.cells] at hB3 hc1 hc2 hfn
  have hz3 := hB3.size
  go_enter Try.func14, Try.ntmps14
  dsimp only [candV, Cand.cells]
  go_wp2_with fail
  generalize hW : (((w.alloc (.cells #[.bool x.super, .int .i64 x.top, .int .i64 x.details, .int .i64 x.pool.tx, .int .i64 x.pool.time, .int .i64 x.pool.unit, .int .i64 x.pool.data, .slice A1 x.pool.devs.length n1] 33)).alloc (.cells #[.bool y.super, .int .i64 y.top, .int .i64 y.details, .int .i64 y.pool.tx, .int .i64 y.pool.time, .int .i64 y.pool.unit, .int .i64 y.pool.data, .slice A2 y.pool.devs.length n2] 33)).alloc (.cells #[.func (.func 20) #[] #[.pointer (some ⟨w.heap.size, 0, none⟩), .pointer (some ⟨w.heap.size + 1, 0, none⟩)], .func (.func 23) #[] #[.pointer (some ⟨w.heap.size + 1, 0, none⟩), .pointer (some ⟨w.heap.size, 0, none⟩)], .func (.func 25) #[] #[.pointer (some ⟨w.heap.size + 1, 0, none⟩), .pointer (some ⟨w.heap.size, 0, none⟩)], .func (.func 26) #[] #[.pointer (some ⟨w.heap.size + 1, 0, none⟩), .pointer (some ⟨w.heap.size, 0, none⟩)], .func (.func 28) #[] #[.pointer (some ⟨w.heap.size, 0, none⟩), .pointer (some ⟨w.heap.size + 1, 0, none⟩)], .func (.func 29) #[] #[.pointer (some ⟨w.heap.size, 0, none⟩), .pointer (some ⟨w.heap.size + 1, 0, none⟩)]] 53)) = w3 at *
  have hs3 : w3.heap.size = w.heap.size + 3 := by rw [← hW]; simp
  clear hW
  have HX : Hid (∀ w', Below w3.heap.size w3 w' → IsCand w' S1 (candV x A1 n1) x) := fun w' hB => (h1'.below hB3 hS1).below hB (fun b hb => by have := hS1 b hb; omega)
  have HY : Hid (∀ w', Below w3.heap.size w3 w' → IsCand w' S2 (candV y A2 n2) y) := fun w' hB => (h2'.below hB3 hS2).below hB (fun b hb => by have := hS2 b hb; omega)
  have hS1r : ∀ w', Below w3.heap.size w3 w' → ∀ b, S1 b → b < w'.heap.size := fun w' hB b hb => by have := hS1 b hb; have := hB.size; omega
  have hS2r : ∀ w', Below w3.heap.size w3 w' → ∀ b, S2 b → b < w'.heap.size := fun w' hB b hb => by have := hS2 b hb; have := hB.size; omega
  clear h1' h2'
  go_loopw [18] (fun i wr => ∃ k : Nat, k ≤ 6 ∧ i = .int .i64 k ∧ orI ((cmpL x y).drop k) = cmpC x y ∧ Below w3.heap.size w3 wr) (fun i _ => 6 - (intOf i).toNat)
  case atStart => exact ⟨0, by omega, rfl, rfl, Below.refl _ _⟩
  case round =>
    obtain ⟨k, hk, rfl, hrest, hB⟩ := hrel
    have hcf := (hB.block (w.heap.size + 2) (by omega)).trans hfn
    obtain ⟨f0, f1, f2, f3, f4, f5⟩ : wr.cell? ⟨w.heap.size + 2, 0, none⟩ = _ ∧ wr.cell? ⟨w.heap.size + 2, 1, none⟩ = _ ∧ wr.cell? ⟨w.heap.size + 2, 2, none⟩ = _ ∧ wr.cell? ⟨w.heap.size + 2, 3, none⟩ = _ ∧ wr.cell? ⟨w.heap.size + 2, 4, none⟩ = _ ∧ wr.cell? ⟨w.heap.size + 2, 5, none⟩ = _ := by
      refine ⟨?_, ?_, ?_, ?_, ?_, ?_⟩ <;> (simp only [World.cell?, hcf]; rfl)
    rcases (by omega : k = 0 ∨ k = 1 ∨ k = 2 ∨ k = 3 ∨ k = 4 ∨ k = 5 ∨ k = 6) with rfl | rfl | rfl | rfl | rfl | rfl | rfl
    · have hst := step1 wr _ _ x y A1 A2 n1 n2 (hc1.below hB (by omega)) (hc2.below hB (by omega))
      have HST := Lib.hid hst
      clear hst
      by_cases h0 : cmpI (firstI x) (firstI y) = 0
      · have HN := Lib.hid ((orI_step (l := cmpL x y) (k := 0) (by simp [cmpL]) h0).symm.trans hrest)
        rw [h0] at HST
        clear h0 hrest
        go_wp2_with (go_at_call 20; refine HST.out.mono ?_; rintro e w5 ⟨rfl, hB5⟩)
        go_roundw
        case rel => exact ⟨1, by omega, rfl, HN.out, hB.trans (hB5.mono hB.size)⟩
        case measure => simp [intOf]
      · have HN := Lib.hid (hrest.symm.trans (orI_stop (l := cmpL x y) (k := 0) (by simp [cmpL]) h0))
        have hnz : (cmpI (firstI x) (firstI y) != 0) = true := by simp [h0]
        clear h0 hrest
        dsimp only [cmpL, nth] at HN
        generalize cmpI (firstI x) (firstI y) = nv at *
        go_wp2_with (go_at_call 20; refine HST.out.mono ?_; rintro e w5 ⟨rfl, hB5⟩)
        refine bodyPost_ret (results_tmp rfl _ _ _) rfl ?_
        exact ⟨by rw [HN.out]; rfl, hB3.trans ((hB.trans (hB5.mono hB.size)).mono (by omega))⟩
    · have hst := step2 wr S2 S1 _ _ y x A2 A1 n2 n1 (hc2.below hB (by omega)) (hc1.below hB (by omega)) (hS2r wr hB) (hS1r wr hB) (HY.out _ hB) (HX.out _ hB) hy hx
      have HST := Lib.hid hst
      clear hst
      by_cases h0 : cmpI y.pool.latest x.pool.latest = 0
      · have HN := Lib.hid ((orI_step (l := cmpL x y) (k := 1) (by simp [cmpL]) h0).symm.trans hrest)
        rw [h0] at HST
        clear h0 hrest
        go_wp2_with (go_at_call 23; refine HST.out.mono ?_; rintro e w5 ⟨rfl, hB5⟩)
        go_roundw
        case rel => exact ⟨2, by omega, rfl, HN.out, hB.trans (hB5.mono hB.size)⟩
        case measure => simp [intOf]
      · have HN := Lib.hid (hrest.symm.trans (orI_stop (l := cmpL x y) (k := 1) (by simp [cmpL]) h0))
        have hnz : (cmpI y.pool.latest x.pool.latest != 0) = true := by simp [h0]
        clear h0 hrest
        dsimp only [cmpL, nth] at HN
        generalize cmpI y.pool.latest x.pool.latest = nv at *
        go_wp2_with (go_at_call 23; refine HST.out.mono ?_; rintro e w5 ⟨rfl, hB5⟩)
        refine bodyPost_ret (results_tmp rfl _ _ _) rfl ?_
        exact ⟨by rw [HN.out]; rfl, hB3.trans ((hB.trans (hB5.mono hB.size)).mono (by omega))⟩
    · have hst := step3 wr _ _ y x A2 A1 n2 n1 (hc2.below hB (by omega)) (hc1.below hB (by omega))
      have HST := Lib.hid hst
      clear hst
      by_cases h0 : cmpI y.pool.devs.length x.pool.devs.length = 0
      · have HN := Lib.hid ((orI_step (l := cmpL x y) (k := 2) (by simp [cmpL]) h0).symm.trans hrest)
        rw [h0] at HST
        clear h0 hrest
        go_wp2_with (go_at_call 25; refine HST.out.mono ?_; rintro e w5 ⟨rfl, hB5⟩)
        go_roundw
        case rel => exact ⟨3, by omega, rfl, HN.out, hB.trans (hB5.mono hB.size)⟩
        case measure => simp [intOf]
      · have HN := Lib.hid (hrest.symm.trans (orI_stop (l := cmpL x y) (k := 2) (by simp [cmpL]) h0))
        have hnz : (cmpI y.pool.devs.length x.pool.devs.length != 0) = true := by simp [h0]
        clear h0 hrest
        dsimp only [cmpL, nth] at HN
        generalize cmpI y.pool.devs.length x.pool.devs.length = nv at *
        go_wp2_with (go_at_call 25; refine HST.out.mono ?_; rintro e w5 ⟨rfl, hB5⟩)
        refine bodyPost_ret (results_tmp rfl _ _ _) rfl ?_
        exact ⟨by rw [HN.out]; rfl, hB3.trans ((hB.trans (hB5.mono hB.size)).mono (by omega))⟩
    · have hst := step4 wr S2 S1 _ _ y x A2 A1 n2 n1 (hc2.below hB (by omega)) (hc1.below hB (by omega)) (hS2r wr hB) (hS1r wr hB) (HY.out _ hB) (HX.out _ hB) hy hx
      have HST := Lib.hid hst
      clear hst
      by_cases h0 : cmpI y.pool.count x.pool.count = 0
      · have HN := Lib.hid ((orI_step (l := cmpL x y) (k := 3) (by simp [cmpL]) h0).symm.trans hrest)
        rw [h0] at HST
        clear h0 hrest
        go_wp2_with (go_at_call 26; refine HST.out.mono ?_; rintro e w5 ⟨rfl, hB5⟩)
        go_roundw
        case rel => exact ⟨4, by omega, rfl, HN.out, hB.trans (hB5.mono hB.size)⟩
        case measure => simp [intOf]
      · have HN := Lib.hid (hrest.symm.trans (orI_stop (l := cmpL x y) (k := 3) (by simp [cmpL]) h0))
        have hnz : (cmpI y.pool.count x.pool.count != 0) = true := by simp [h0]
        clear h0 hrest
        dsimp only [cmpL, nth] at HN
        generalize cmpI y.pool.count x.pool.count = nv at *
        go_wp2_with (go_at_call 26; refine HST.out.mono ?_; rintro e w5 ⟨rfl, hB5⟩)
        refine bodyPost_ret (results_tmp rfl _ _ _) rfl ?_
        exact ⟨by rw [HN.out]; rfl, hB3.trans ((hB.trans (hB5.mono hB.size)).mono (by omega))⟩
    · have hst := step5 wr _ _ x y A1 A2 n1 n2 (hc1.below hB (by omega)) (hc2.below hB (by omega))
      have HST := Lib.hid hst
      clear hst
      by_cases h0 : cmpI x.top y.top = 0
      · have HN := Lib.hid ((orI_step (l := cmpL x y) (k := 4) (by simp [cmpL]) h0).symm.trans hrest)
        rw [h0] at HST
        clear h0 hrest
        go_wp2_with (go_at_call 28; refine HST.out.mono ?_; rintro e w5 ⟨rfl, hB5⟩)
        go_roundw
        case rel => exact ⟨5, by omega, rfl, HN.out, hB.trans (hB5.mono hB.size)⟩
        case measure => simp [intOf]
      · have HN := Lib.hid (hrest.symm.trans (orI_stop (l := cmpL x y) (k := 4) (by simp [cmpL]) h0))
        have hnz : (cmpI x.top y.top != 0) = true := by simp [h0]
        clear h0 hrest
        dsimp only [cmpL, nth] at HN
        generalize cmpI x.top y.top = nv at *
        go_wp2_with (go_at_call 28; refine HST.out.mono ?_; rintro e w5 ⟨rfl, hB5⟩)
        refine bodyPost_ret (results_tmp rfl _ _ _) rfl ?_
        exact ⟨by rw [HN.out]; rfl, hB3.trans ((hB.trans (hB5.mono hB.size)).mono (by omega))⟩
    · have hst := step6 wr _ _ x y A1 A2 n1 n2 (hc1.below hB (by omega)) (hc2.below hB (by omega))
      have HST := Lib.hid hst
      clear hst
      by_cases h0 : cmpI x.details y.details = 0
      · have HN := Lib.hid ((orI_step (l := cmpL x y) (k := 5) (by simp [cmpL]) h0).symm.trans hrest)
        rw [h0] at HST
        clear h0 hrest
        go_wp2_with (go_at_call 29; refine HST.out.mono ?_; rintro e w5 ⟨rfl, hB5⟩)
        go_roundw
        case rel => exact ⟨6, by omega, rfl, HN.out, hB.trans (hB5.mono hB.size)⟩
        case measure => simp [intOf]
      · have HN := Lib.hid (hrest.symm.trans (orI_stop (l := cmpL x y) (k := 5) (by simp [cmpL]) h0))
        have hnz : (cmpI x.details y.details != 0) = true := by simp [h0]
        clear h0 hrest
        dsimp only [cmpL, nth] at HN
        generalize cmpI x.details y.details = nv at *
        go_wp2_with (go_at_call 29; refine HST.out.mono ?_; rintro e w5 ⟨rfl, hB5⟩)
        refine bodyPost_ret (results_tmp rfl _ _ _) rfl ?_
        exact ⟨by rw [HN.out]; rfl, hB3.trans ((hB.trans (hB5.mono hB.size)).mono (by omega))⟩
    · go_wp2_with fail
      go_ret
      exact ⟨by rw [← hrest]; rfl, hB3.trans (hB.mono (by omega))⟩
end Go.Proofs.Ytolpgblegbahgaa
