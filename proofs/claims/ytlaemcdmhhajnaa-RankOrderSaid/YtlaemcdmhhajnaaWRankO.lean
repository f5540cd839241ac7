/- scantlinglaw36.RankOrder says yes of any three candidates. Condition: the numbers fit into Go's int, and no slice is longer than the reach. -/
import Derived.Test.YtlaemcdmhhajnaaWRank7
namespace Go.Proofs.Ytlaemcdmhhajnaa
open Go.RowKit
attribute [local go_sem] Oper.semAt_some

set_option maxRecDepth 100000 in
set_option maxHeartbeats 3200000 in
theorem rankOrder_walk (w : World) (v1 v2 v3 : Value) (x y z : Cand) (h1 : IsCand w (Lt w.heap.size) v1 x) (h2 : IsCand w (Lt w.heap.size) v2 y) (h3 : IsCand w (Lt w.heap.size) v3 z) (o1 : x.pool.ok) (o2 : y.pool.ok) (o3 : z.pool.ok) :
    Calls Try.prog 3 #[v1, v2, v3] w fun e w' => e = .returned (.bool true) ∧ Below w.heap.size w w' := by
  have g1 := h1
  have g2 := h2
  have g3 := h3
  obtain ⟨A1, n1, rfl, hn1, hr1⟩ := h1
  obtain ⟨A2, n2, rfl, hn2, hr2⟩ := h2
  obtain ⟨A3, n3, rfl, hn3, hr3⟩ := h3
  have hB3 : Below w.heap.size w (((w.alloc (candBox x A1 n1)).alloc (candBox y A2 n2)).alloc (candBox z A3 n3)) := (((Below.refl _ _).alloc (Nat.le_refl _) _).alloc (by simp) _).alloc (by simp; omega) _
  have hc1 : CBox (((w.alloc (candBox x A1 n1)).alloc (candBox y A2 n2)).alloc (candBox z A3 n3)) w.heap.size x A1 n1 := ((CBox.new w x A1 n1).below (Below.alloc (Below.refl _ _) (Nat.le_refl _) _) (by simp)).below (Below.alloc (Below.refl _ _) (Nat.le_refl _) _) (by simp; omega)
  have hc2 : CBox (((w.alloc (candBox x A1 n1)).alloc (candBox y A2 n2)).alloc (candBox z A3 n3)) (w.heap.size + 1) y A2 n2 := by
    have := (CBox.new (w.alloc (candBox x A1 n1)) y A2 n2).below (Below.alloc (Below.refl _ _) (Nat.le_refl _) (candBox z A3 n3)) (by simp)
    simpa only [World.size_alloc] using this
  have hc3 : CBox (((w.alloc (candBox x A1 n1)).alloc (candBox y A2 n2)).alloc (candBox z A3 n3)) (w.heap.size + 2) z A3 n3 := by
    have := CBox.new ((w.alloc (candBox x A1 n1)).alloc (candBox y A2 n2)) z A3 n3
    simpa only [World.size_alloc] using this
  have hk4 : Below (((w.alloc (candBox x A1 n1)).alloc (candBox y A2 n2)).alloc (candBox z A3 n3)).heap.size (((w.alloc (candBox x A1 n1)).alloc (candBox y A2 n2)).alloc (candBox z A3 n3)) ((((w.alloc (candBox x A1 n1)).alloc (candBox y A2 n2)).alloc (candBox z A3 n3)).alloc (.cells #[.bool x.super, .int .i64 x.top, .int .i64 x.details, .int .i64 x.pool.tx, .int .i64 x.pool.time, .int .i64 x.pool.unit, .int .i64 x.pool.data, .slice A1 x.pool.devs.length n1, .bool y.super, .int .i64 y.top, .int .i64 y.details, .int .i64 y.pool.tx, .int .i64 y.pool.time, .int .i64 y.pool.unit, .int .i64 y.pool.data, .slice A2 y.pool.devs.length n2, .bool z.super, .int .i64 z.top, .int .i64 z.details, .int .i64 z.pool.tx, .int .i64 z.pool.time, .int .i64 z.pool.unit, .int .i64 z.pool.data, .slice A3 z.pool.devs.length n3] 26)) := (Below.refl _ _).alloc (Nat.le_refl _) _
  have hrow := heap_alloc_new (((w.alloc (candBox x A1 n1)).alloc (candBox y A2 n2)).alloc (candBox z A3 n3)) (.cells #[.bool x.super, .int .i64 x.top, .int .i64 x.details, .int .i64 x.pool.tx, .int .i64 x.pool.time, .int .i64 x.pool.unit, .int .i64 x.pool.data, .slice A1 x.pool.devs.length n1, .bool y.super, .int .i64 y.top, .int .i64 y.details, .int .i64 y.pool.tx, .int .i64 y.pool.time, .int .i64 y.pool.unit, .int .i64 y.pool.data, .slice A2 y.pool.devs.length n2, .bool z.super, .int .i64 z.top, .int .i64 z.details, .int .i64 z.pool.tx, .int .i64 z.pool.time, .int .i64 z.pool.unit, .int .i64 z.pool.data, .slice A3 z.pool.devs.length n3] 26)
  have hsl : IsSl RCand 8 cand0 ((((w.alloc (candBox x A1 n1)).alloc (candBox y A2 n2)).alloc (candBox z A3 n3)).alloc (.cells #[.bool x.super, .int .i64 x.top, .int .i64 x.details, .int .i64 x.pool.tx, .int .i64 x.pool.time, .int .i64 x.pool.unit, .int .i64 x.pool.data, .slice A1 x.pool.devs.length n1, .bool y.super, .int .i64 y.top, .int .i64 y.details, .int .i64 y.pool.tx, .int .i64 y.pool.time, .int .i64 y.pool.unit, .int .i64 y.pool.data, .slice A2 y.pool.devs.length n2, .bool z.super, .int .i64 z.top, .int .i64 z.details, .int .i64 z.pool.tx, .int .i64 z.pool.time, .int .i64 z.pool.unit, .int .i64 z.pool.data, .slice A3 z.pool.devs.length n3] 26)) (Lt (w.heap.size + 4)) (.slice (some ⟨w.heap.size + 3, 0, none⟩) 3 3) [x, y, z] := by
    have hrow' := hrow
    simp only [World.size_alloc] at hrow'
    have hkk := hB3.alloc hB3.size (.cells #[.bool x.super, .int .i64 x.top, .int .i64 x.details, .int .i64 x.pool.tx, .int .i64 x.pool.time, .int .i64 x.pool.unit, .int .i64 x.pool.data, .slice A1 x.pool.devs.length n1, .bool y.super, .int .i64 y.top, .int .i64 y.details, .int .i64 y.pool.tx, .int .i64 y.pool.time, .int .i64 y.pool.unit, .int .i64 y.pool.data, .slice A2 y.pool.devs.length n2, .bool z.super, .int .i64 z.top, .int .i64 z.details, .int .i64 z.pool.tx, .int .i64 z.pool.time, .int .i64 z.pool.unit, .int .i64 z.pool.data, .slice A3 z.pool.devs.length n3] 26)
    refine cands_block (l := [x, y, z]) hrow' (show w.heap.size + 1 + 1 + 1 < w.heap.size + 4 by omega) (by simp) (fun k hk => ?_)
    have hk2 : k < 3 := hk
    have hS4 : ∀ b, Lt w.heap.size b → Lt (w.heap.size + 4) b := fun b hb => by have h : b < w.heap.size := hb; show b < w.heap.size + 4; omega
    rcases (by omega : k = 0 ∨ k = 1 ∨ k = 2) with rfl | rfl | rfl
    · exact ⟨A1, n1, fun j hj => by rcases (by omega : j = 0 ∨ j = 1 ∨ j = 2 ∨ j = 3 ∨ j = 4 ∨ j = 5 ∨ j = 6 ∨ j = 7) with rfl | rfl | rfl | rfl | rfl | rfl | rfl | rfl <;> rfl, hn1, hr1.keep rdev_stable hS4 (keep_below hkk (fun _ h => h))⟩
    · exact ⟨A2, n2, fun j hj => by rcases (by omega : j = 0 ∨ j = 1 ∨ j = 2 ∨ j = 3 ∨ j = 4 ∨ j = 5 ∨ j = 6 ∨ j = 7) with rfl | rfl | rfl | rfl | rfl | rfl | rfl | rfl <;> rfl, hn2, hr2.keep rdev_stable hS4 (keep_below hkk (fun _ h => h))⟩
    · exact ⟨A3, n3, fun j hj => by rcases (by omega : j = 0 ∨ j = 1 ∨ j = 2 ∨ j = 3 ∨ j = 4 ∨ j = 5 ∨ j = 6 ∨ j = 7) with rfl | rfl | rfl | rfl | rfl | rfl | rfl | rfl <;> rfl, hn3, hr3.keep rdev_stable hS4 (keep_below hkk (fun _ h => h))⟩
  have hfew := few36_any ((((w.alloc (candBox x A1 n1)).alloc (candBox y A2 n2)).alloc (candBox z A3 n3)).alloc (.cells #[.bool x.super, .int .i64 x.top, .int .i64 x.details, .int .i64 x.pool.tx, .int .i64 x.pool.time, .int .i64 x.pool.unit, .int .i64 x.pool.data, .slice A1 x.pool.devs.length n1, .bool y.super, .int .i64 y.top, .int .i64 y.details, .int .i64 y.pool.tx, .int .i64 y.pool.time, .int .i64 y.pool.unit, .int .i64 y.pool.data, .slice A2 y.pool.devs.length n2, .bool z.super, .int .i64 z.top, .int .i64 z.details, .int .i64 z.pool.tx, .int .i64 z.pool.time, .int .i64 z.pool.unit, .int .i64 z.pool.data, .slice A3 z.pool.devs.length n3] 26)) (Lt (w.heap.size + 4)) _ [x, y, z] (fun b hb => by have h : b < w.heap.size + 4 := hb; simp; omega) hsl (by simp) (fun c hc => by
    simp at hc
    rcases hc with rfl | rfl | rfl
    · exact o1
    · exact o2
    · exact o3)
  have HFEW := Lib.hid hfew
  have up : ∀ w', Below (((w.alloc (candBox x A1 n1)).alloc (candBox y A2 n2)).alloc (candBox z A3 n3)).heap.size (((w.alloc (candBox x A1 n1)).alloc (candBox y A2 n2)).alloc (candBox z A3 n3)) w' → Below w.heap.size w w' := fun w' hB => hB3.trans (hB.mono (by simp; omega))
  have HUP := Lib.hid up
  have HX : Hid (∀ w', Below (((w.alloc (candBox x A1 n1)).alloc (candBox y A2 n2)).alloc (candBox z A3 n3)).heap.size (((w.alloc (candBox x A1 n1)).alloc (candBox y A2 n2)).alloc (candBox z A3 n3)) w' → CBox w' w.heap.size x A1 n1) := fun w' hB => hc1.below hB hc1.lt
  have HY : Hid (∀ w', Below (((w.alloc (candBox x A1 n1)).alloc (candBox y A2 n2)).alloc (candBox z A3 n3)).heap.size (((w.alloc (candBox x A1 n1)).alloc (candBox y A2 n2)).alloc (candBox z A3 n3)) w' → CBox w' (w.heap.size + 1) y A2 n2) := fun w' hB => hc2.below hB hc2.lt
  have HZ : Hid (∀ w', Below (((w.alloc (candBox x A1 n1)).alloc (candBox y A2 n2)).alloc (candBox z A3 n3)).heap.size (((w.alloc (candBox x A1 n1)).alloc (candBox y A2 n2)).alloc (candBox z A3 n3)) w' → CBox w' (w.heap.size + 2) z A3 n3) := fun w' hB => hc3.below hB hc3.lt
  have hbf : ∀ (a b : Cand) (va vb : Value), IsCand w (Lt w.heap.size) va a → IsCand w (Lt w.heap.size) vb b → a.few → b.few → ∀ w', Below (((w.alloc (candBox x A1 n1)).alloc (candBox y A2 n2)).alloc (candBox z A3 n3)).heap.size (((w.alloc (candBox x A1 n1)).alloc (candBox y A2 n2)).alloc (candBox z A3 n3)) w' → Calls Try.prog 7 #[va, vb] w' fun e w2 => e = .returned (.bool (decide (cmpC a b < 0))) ∧ Below w'.heap.size w' w2 :=
    fun a b va vb ha hb fa fb w' hB => before_any w' (Lt w.heap.size) (Lt w.heap.size) va vb a b (fun c hc => Nat.lt_of_lt_of_le hc (up w' hB).size) (fun c hc => Nat.lt_of_lt_of_le hc (up w' hB).size) (ha.below (up w' hB) (fun _ h => h)) (hb.below (up w' hB) (fun _ h => h)) fa fb
  clear hsl hrow hfew hr1 hr2 hr3 hc1 hc2 hc3 up
  by_cases hf : few36 [x, y, z] = true
  · rw [hf] at HFEW
    obtain ⟨_, hall⟩ := few36_all hf
    have f1 := (few_of o1 (hall x (by simp))).1
    have f2 := (few_of o2 (hall y (by simp))).1
    have f3 := (few_of o3 (hall z (by simp))).1
    have bxx := hbf x x _ _ g1 g1 f1 f1
    have bxy := hbf x y _ _ g1 g2 f1 f2
    have byx := hbf y x _ _ g2 g1 f2 f1
    have byz := hbf y z _ _ g2 g3 f2 f3
    have bxz := hbf x z _ _ g1 g3 f1 f3
    rw [decide_eq_false (by rw [ahead_irrefl]; omega)] at bxx
    clear hbf g1 g2 g3 hf hall f1 f2 f3
    by_cases hxy : cmpC x y < 0
    · rw [decide_eq_true hxy] at bxy
      rw [decide_eq_false (ahead_asymm hxy)] at byx
      by_cases hyz : cmpC y z < 0
      · rw [decide_eq_true hyz] at byz
        rw [decide_eq_true (ahead_trans hxy hyz)] at bxz
        have HXX := Lib.hid bxx
        have HXY := Lib.hid bxy
        have HYX := Lib.hid byx
        have HYZ := Lib.hid byz
        have HXZ := Lib.hid bxz
        clear bxx bxy byx byz bxz hxy hyz
        dsimp only [candBox, candV, Cand.cells] at hB3 hk4 HFEW HUP HX HY HZ HXX HXY HYX HYZ HXZ ⊢
        go_enter Try.func3, Try.ntmps3
        go_wp2_with (first
          | (go_at_call 7; have _ := hk10; refine (HXZ.out _ hk10).mono ?_; rintro e w11 ⟨rfl, hB11⟩; have hk11 := hk10.trans (hB11.mono hk10.size); clear x0 x1 x2 x3 x4 x5 x6 x7 y0 y1 y2 y3 y4 y5 y6 y7 z0 z1 z2 z3 z4 z5 z6 z7; obtain ⟨x0, x1, x2, x3, x4, x5, x6, x7⟩ := (HX.out _ hk11).cells; obtain ⟨y0, y1, y2, y3, y4, y5, y6, y7⟩ := (HY.out _ hk11).cells; obtain ⟨z0, z1, z2, z3, z4, z5, z6, z7⟩ := (HZ.out _ hk11).cells)
          | (go_at_call 7; have _ := hk9; refine (HYZ.out _ hk9).mono ?_; rintro e w10 ⟨rfl, hB10⟩; have hk10 := hk9.trans (hB10.mono hk9.size); clear x0 x1 x2 x3 x4 x5 x6 x7 y0 y1 y2 y3 y4 y5 y6 y7 z0 z1 z2 z3 z4 z5 z6 z7; obtain ⟨x0, x1, x2, x3, x4, x5, x6, x7⟩ := (HX.out _ hk10).cells; obtain ⟨y0, y1, y2, y3, y4, y5, y6, y7⟩ := (HY.out _ hk10).cells; obtain ⟨z0, z1, z2, z3, z4, z5, z6, z7⟩ := (HZ.out _ hk10).cells)
          | (go_at_call 7; have _ := hk8; refine (HXY.out _ hk8).mono ?_; rintro e w9 ⟨rfl, hB9⟩; have hk9 := hk8.trans (hB9.mono hk8.size); clear x0 x1 x2 x3 x4 x5 x6 x7 y0 y1 y2 y3 y4 y5 y6 y7 z0 z1 z2 z3 z4 z5 z6 z7; obtain ⟨x0, x1, x2, x3, x4, x5, x6, x7⟩ := (HX.out _ hk9).cells; obtain ⟨y0, y1, y2, y3, y4, y5, y6, y7⟩ := (HY.out _ hk9).cells; obtain ⟨z0, z1, z2, z3, z4, z5, z6, z7⟩ := (HZ.out _ hk9).cells)
          | (go_at_call 7; have _ := hk7; refine (HYX.out _ hk7).mono ?_; rintro e w8 ⟨rfl, hB8⟩; have hk8 := hk7.trans (hB8.mono hk7.size); clear x0 x1 x2 x3 x4 x5 x6 x7 y0 y1 y2 y3 y4 y5 y6 y7 z0 z1 z2 z3 z4 z5 z6 z7; obtain ⟨x0, x1, x2, x3, x4, x5, x6, x7⟩ := (HX.out _ hk8).cells; obtain ⟨y0, y1, y2, y3, y4, y5, y6, y7⟩ := (HY.out _ hk8).cells; obtain ⟨z0, z1, z2, z3, z4, z5, z6, z7⟩ := (HZ.out _ hk8).cells)
          | (go_at_call 7; have _ := hk6; refine (HXY.out _ hk6).mono ?_; rintro e w7 ⟨rfl, hB7⟩; have hk7 := hk6.trans (hB7.mono hk6.size); clear x0 x1 x2 x3 x4 x5 x6 x7 y0 y1 y2 y3 y4 y5 y6 y7 z0 z1 z2 z3 z4 z5 z6 z7; obtain ⟨x0, x1, x2, x3, x4, x5, x6, x7⟩ := (HX.out _ hk7).cells; obtain ⟨y0, y1, y2, y3, y4, y5, y6, y7⟩ := (HY.out _ hk7).cells; obtain ⟨z0, z1, z2, z3, z4, z5, z6, z7⟩ := (HZ.out _ hk7).cells)
          | (go_at_call 7; have _ := hk5; refine (HXX.out _ hk5).mono ?_; rintro e w6 ⟨rfl, hB6⟩; have hk6 := hk5.trans (hB6.mono hk5.size); clear x0 x1 x2 x3 x4 x5 x6 x7 y0 y1 y2 y3 y4 y5 y6 y7 z0 z1 z2 z3 z4 z5 z6 z7; obtain ⟨x0, x1, x2, x3, x4, x5, x6, x7⟩ := (HX.out _ hk6).cells; obtain ⟨y0, y1, y2, y3, y4, y5, y6, y7⟩ := (HY.out _ hk6).cells; obtain ⟨z0, z1, z2, z3, z4, z5, z6, z7⟩ := (HZ.out _ hk6).cells)
          | (go_at_call 5; refine HFEW.out.mono ?_; rintro e w5 ⟨rfl, hB5⟩; have hk5 := hk4.trans (hB5.mono hk4.size); obtain ⟨x0, x1, x2, x3, x4, x5, x6, x7⟩ := (HX.out _ hk5).cells; obtain ⟨y0, y1, y2, y3, y4, y5, y6, y7⟩ := (HY.out _ hk5).cells; obtain ⟨z0, z1, z2, z3, z4, z5, z6, z7⟩ := (HZ.out _ hk5).cells)
          | (go_at_call 6; refine (lives36 _).mono ?_; rintro e w99 ⟨rfl, hB99⟩; have hk99 := hk11.trans (hB99.mono hk11.size)))
        go_ret
        exact ⟨rfl, HUP.out _ hk99⟩
      · rw [decide_eq_false hyz] at byz
        have HXX := Lib.hid bxx
        have HXY := Lib.hid bxy
        have HYX := Lib.hid byx
        have HYZ := Lib.hid byz
        clear bxx bxy byx byz bxz hxy hyz
        dsimp only [candBox, candV, Cand.cells] at hB3 hk4 HFEW HUP HX HY HZ HXX HXY HYX HYZ ⊢
        go_enter Try.func3, Try.ntmps3
        go_wp2_with (first
          | (go_at_call 7; have _ := hk9; refine (HYZ.out _ hk9).mono ?_; rintro e w10 ⟨rfl, hB10⟩; have hk10 := hk9.trans (hB10.mono hk9.size); clear x0 x1 x2 x3 x4 x5 x6 x7 y0 y1 y2 y3 y4 y5 y6 y7 z0 z1 z2 z3 z4 z5 z6 z7; obtain ⟨x0, x1, x2, x3, x4, x5, x6, x7⟩ := (HX.out _ hk10).cells; obtain ⟨y0, y1, y2, y3, y4, y5, y6, y7⟩ := (HY.out _ hk10).cells; obtain ⟨z0, z1, z2, z3, z4, z5, z6, z7⟩ := (HZ.out _ hk10).cells)
          | (go_at_call 7; have _ := hk8; refine (HXY.out _ hk8).mono ?_; rintro e w9 ⟨rfl, hB9⟩; have hk9 := hk8.trans (hB9.mono hk8.size); clear x0 x1 x2 x3 x4 x5 x6 x7 y0 y1 y2 y3 y4 y5 y6 y7 z0 z1 z2 z3 z4 z5 z6 z7; obtain ⟨x0, x1, x2, x3, x4, x5, x6, x7⟩ := (HX.out _ hk9).cells; obtain ⟨y0, y1, y2, y3, y4, y5, y6, y7⟩ := (HY.out _ hk9).cells; obtain ⟨z0, z1, z2, z3, z4, z5, z6, z7⟩ := (HZ.out _ hk9).cells)
          | (go_at_call 7; have _ := hk7; refine (HYX.out _ hk7).mono ?_; rintro e w8 ⟨rfl, hB8⟩; have hk8 := hk7.trans (hB8.mono hk7.size); clear x0 x1 x2 x3 x4 x5 x6 x7 y0 y1 y2 y3 y4 y5 y6 y7 z0 z1 z2 z3 z4 z5 z6 z7; obtain ⟨x0, x1, x2, x3, x4, x5, x6, x7⟩ := (HX.out _ hk8).cells; obtain ⟨y0, y1, y2, y3, y4, y5, y6, y7⟩ := (HY.out _ hk8).cells; obtain ⟨z0, z1, z2, z3, z4, z5, z6, z7⟩ := (HZ.out _ hk8).cells)
          | (go_at_call 7; have _ := hk6; refine (HXY.out _ hk6).mono ?_; rintro e w7 ⟨rfl, hB7⟩; have hk7 := hk6.trans (hB7.mono hk6.size); clear x0 x1 x2 x3 x4 x5 x6 x7 y0 y1 y2 y3 y4 y5 y6 y7 z0 z1 z2 z3 z4 z5 z6 z7; obtain ⟨x0, x1, x2, x3, x4, x5, x6, x7⟩ := (HX.out _ hk7).cells; obtain ⟨y0, y1, y2, y3, y4, y5, y6, y7⟩ := (HY.out _ hk7).cells; obtain ⟨z0, z1, z2, z3, z4, z5, z6, z7⟩ := (HZ.out _ hk7).cells)
          | (go_at_call 7; have _ := hk5; refine (HXX.out _ hk5).mono ?_; rintro e w6 ⟨rfl, hB6⟩; have hk6 := hk5.trans (hB6.mono hk5.size); clear x0 x1 x2 x3 x4 x5 x6 x7 y0 y1 y2 y3 y4 y5 y6 y7 z0 z1 z2 z3 z4 z5 z6 z7; obtain ⟨x0, x1, x2, x3, x4, x5, x6, x7⟩ := (HX.out _ hk6).cells; obtain ⟨y0, y1, y2, y3, y4, y5, y6, y7⟩ := (HY.out _ hk6).cells; obtain ⟨z0, z1, z2, z3, z4, z5, z6, z7⟩ := (HZ.out _ hk6).cells)
          | (go_at_call 5; refine HFEW.out.mono ?_; rintro e w5 ⟨rfl, hB5⟩; have hk5 := hk4.trans (hB5.mono hk4.size); obtain ⟨x0, x1, x2, x3, x4, x5, x6, x7⟩ := (HX.out _ hk5).cells; obtain ⟨y0, y1, y2, y3, y4, y5, y6, y7⟩ := (HY.out _ hk5).cells; obtain ⟨z0, z1, z2, z3, z4, z5, z6, z7⟩ := (HZ.out _ hk5).cells)
          | (go_at_call 6; refine (lives36 _).mono ?_; rintro e w99 ⟨rfl, hB99⟩; have hk99 := hk10.trans (hB99.mono hk10.size)))
        go_ret
        exact ⟨rfl, HUP.out _ hk99⟩
    · rw [decide_eq_false hxy] at bxy
      have HXX := Lib.hid bxx
      have HXY := Lib.hid bxy
      clear bxx bxy byx byz bxz hxy
      dsimp only [candBox, candV, Cand.cells] at hB3 hk4 HFEW HUP HX HY HZ HXX HXY ⊢
      go_enter Try.func3, Try.ntmps3
      go_wp2_with (first
        | (go_at_call 7; have _ := hk7; refine (HXY.out _ hk7).mono ?_; rintro e w8 ⟨rfl, hB8⟩; have hk8 := hk7.trans (hB8.mono hk7.size); clear x0 x1 x2 x3 x4 x5 x6 x7 y0 y1 y2 y3 y4 y5 y6 y7 z0 z1 z2 z3 z4 z5 z6 z7; obtain ⟨x0, x1, x2, x3, x4, x5, x6, x7⟩ := (HX.out _ hk8).cells; obtain ⟨y0, y1, y2, y3, y4, y5, y6, y7⟩ := (HY.out _ hk8).cells; obtain ⟨z0, z1, z2, z3, z4, z5, z6, z7⟩ := (HZ.out _ hk8).cells)
        | (go_at_call 7; have _ := hk6; refine (HXY.out _ hk6).mono ?_; rintro e w7 ⟨rfl, hB7⟩; have hk7 := hk6.trans (hB7.mono hk6.size); clear x0 x1 x2 x3 x4 x5 x6 x7 y0 y1 y2 y3 y4 y5 y6 y7 z0 z1 z2 z3 z4 z5 z6 z7; obtain ⟨x0, x1, x2, x3, x4, x5, x6, x7⟩ := (HX.out _ hk7).cells; obtain ⟨y0, y1, y2, y3, y4, y5, y6, y7⟩ := (HY.out _ hk7).cells; obtain ⟨z0, z1, z2, z3, z4, z5, z6, z7⟩ := (HZ.out _ hk7).cells)
        | (go_at_call 7; have _ := hk5; refine (HXX.out _ hk5).mono ?_; rintro e w6 ⟨rfl, hB6⟩; have hk6 := hk5.trans (hB6.mono hk5.size); clear x0 x1 x2 x3 x4 x5 x6 x7 y0 y1 y2 y3 y4 y5 y6 y7 z0 z1 z2 z3 z4 z5 z6 z7; obtain ⟨x0, x1, x2, x3, x4, x5, x6, x7⟩ := (HX.out _ hk6).cells; obtain ⟨y0, y1, y2, y3, y4, y5, y6, y7⟩ := (HY.out _ hk6).cells; obtain ⟨z0, z1, z2, z3, z4, z5, z6, z7⟩ := (HZ.out _ hk6).cells)
        | (go_at_call 5; refine HFEW.out.mono ?_; rintro e w5 ⟨rfl, hB5⟩; have hk5 := hk4.trans (hB5.mono hk4.size); obtain ⟨x0, x1, x2, x3, x4, x5, x6, x7⟩ := (HX.out _ hk5).cells; obtain ⟨y0, y1, y2, y3, y4, y5, y6, y7⟩ := (HY.out _ hk5).cells; obtain ⟨z0, z1, z2, z3, z4, z5, z6, z7⟩ := (HZ.out _ hk5).cells)
        | (go_at_call 6; refine (lives36 _).mono ?_; rintro e w99 ⟨rfl, hB99⟩; have hk99 := hk8.trans (hB99.mono hk8.size)))
      go_ret
      exact ⟨rfl, HUP.out _ hk99⟩
  · have hf' : few36 [x, y, z] = false := by simpa using hf
    rw [hf'] at HFEW
    clear hbf g1 g2 g3 hf hf'
    dsimp only [candBox, candV, Cand.cells] at hB3 hk4 HFEW HUP HX HY HZ ⊢
    go_enter Try.func3, Try.ntmps3
    go_wp2_with (first
      | (go_at_call 5; refine HFEW.out.mono ?_; rintro e w5 ⟨rfl, hB5⟩; have hk5 := hk4.trans (hB5.mono hk4.size); obtain ⟨x0, x1, x2, x3, x4, x5, x6, x7⟩ := (HX.out _ hk5).cells; obtain ⟨y0, y1, y2, y3, y4, y5, y6, y7⟩ := (HY.out _ hk5).cells; obtain ⟨z0, z1, z2, z3, z4, z5, z6, z7⟩ := (HZ.out _ hk5).cells)
      | (go_at_call 6; refine (lives36 _).mono ?_; rintro e w99 ⟨rfl, hB99⟩; have hk99 := hk5.trans (hB99.mono hk5.size)))
    go_ret
    exact ⟨rfl, HUP.out _ hk99⟩
end Go.Proofs.Ytlaemcdmhhajnaa
