/- The six steps of rank.compare. Condition: the pools are small. -/
import Derived.Test.YtolpgblegbahgaaWRank1
namespace Go.Proofs.Ytolpgblegbahgaa
open Go.RowKit
attribute [local go_sem] Oper.semAt_some

theorem step1 (w : World) (b1 b2 : Nat) (x y : Cand) (A1 A2 : Option Addr) (n1 n2 : Nat) (h1 : CBox w b1 x A1 n1) (h2 : CBox w b2 y A2 n2) :
    Calls Try.prog 20 #[.pointer (some ⟨b1, 0, none⟩), .pointer (some ⟨b2, 0, none⟩)] w fun e w' => e = .returned (.int .i64 (cmpI (firstI x) (firstI y))) ∧ Below w.heap.size w w' := by
  have hx := h1.lt
  have hy := h2.lt
  have HX : Hid (∀ w', Below w.heap.size w w' → _) := fun w' hB => (h1.below hB hx).cells
  have HY : Hid (∀ w', Below w.heap.size w w' → _) := fun w' hB => (h2.below hB hy).cells
  have k0 := (Below.refl w.heap.size w).drew
  obtain ⟨x0, x1, x2, x3, x4, x5, x6, x7⟩ := HX.out _ (Below.refl _ _)
  obtain ⟨y0, y1, y2, y3, y4, y5, y6, y7⟩ := HY.out _ (Below.refl _ _)
  go_enter Try.func20, Try.ntmps20
  go_wp2_with fail
  go_region_held3 (fun w' => w'.cell? ⟨b1, 0, none⟩ = some (.bool x.super) ∧ w'.cell? ⟨b1, 1, none⟩ = some (.int .i64 x.top) ∧ w'.cell? ⟨b1, 2, none⟩ = some (.int .i64 x.details) ∧ w'.cell? ⟨b1, 3, none⟩ = some (.int .i64 x.pool.tx) ∧ w'.cell? ⟨b1, 4, none⟩ = some (.int .i64 x.pool.time) ∧ w'.cell? ⟨b1, 5, none⟩ = some (.int .i64 x.pool.unit) ∧ w'.cell? ⟨b1, 6, none⟩ = some (.int .i64 x.pool.data) ∧ w'.cell? ⟨b1, 7, none⟩ = some (.slice A1 x.pool.devs.length n1) ∧
      w'.cell? ⟨b2, 0, none⟩ = some (.bool y.super) ∧ w'.cell? ⟨b2, 1, none⟩ = some (.int .i64 y.top) ∧ w'.cell? ⟨b2, 2, none⟩ = some (.int .i64 y.details) ∧ w'.cell? ⟨b2, 3, none⟩ = some (.int .i64 y.pool.tx) ∧ w'.cell? ⟨b2, 4, none⟩ = some (.int .i64 y.pool.time) ∧ w'.cell? ⟨b2, 5, none⟩ = some (.int .i64 y.pool.unit) ∧ w'.cell? ⟨b2, 6, none⟩ = some (.int .i64 y.pool.data) ∧ w'.cell? ⟨b2, 7, none⟩ = some (.slice A2 y.pool.devs.length n2)) (go_keep)
    (first
      | (go_at_call 22; refine (first_any _ y A2 n2).mono ?_; rintro e w3 ⟨rfl, hB3⟩; have k3 := k2.trans (hB3.mono k2.size); obtain ⟨x0, x1, x2, x3, x4, x5, x6, x7⟩ := HX.out _ k3; obtain ⟨y0, y1, y2, y3, y4, y5, y6, y7⟩ := HY.out _ k3)
      | (go_at_call 22; refine (first_any _ x A1 n1).mono ?_; rintro e w2 ⟨rfl, hB2⟩; have k2 := k0.trans (hB2.mono k0.size); obtain ⟨x0, x1, x2, x3, x4, x5, x6, x7⟩ := HX.out _ k2; obtain ⟨y0, y1, y2, y3, y4, y5, y6, y7⟩ := HY.out _ k2)
      | (go_at_call 21; refine (cmp_any _ _ _).mono ?_; rintro e w' ⟨rfl, rfl⟩))
  go_wp2_with fail
  go_ret
  exact ⟨rfl, k3⟩
theorem step2 (w : World) (S1 S2 : Nat → Prop) (b1 b2 : Nat) (x y : Cand) (A1 A2 : Option Addr) (n1 n2 : Nat) (h1 : CBox w b1 x A1 n1) (h2 : CBox w b2 y A2 n2) (hS1 : ∀ b, S1 b → b < w.heap.size) (hS2 : ∀ b, S2 b → b < w.heap.size) (hp1 : IsCand w S1 (candV x A1 n1) x) (hp2 : IsCand w S2 (candV y A2 n2) y) (hx0 : x.few) (hy0 : y.few) :
    Calls Try.prog 23 #[.pointer (some ⟨b1, 0, none⟩), .pointer (some ⟨b2, 0, none⟩)] w fun e w' => e = .returned (.int .i64 (cmpI x.pool.latest y.pool.latest)) ∧ Below w.heap.size w w' := by
  have hx := h1.lt
  have hy := h2.lt
  have HX : Hid (∀ w', Below w.heap.size w w' → _) := fun w' hB => (h1.below hB hx).cells
  have HY : Hid (∀ w', Below w.heap.size w w' → _) := fun w' hB => (h2.below hB hy).cells
  have HCX : Hid (∀ w', Below w.heap.size w w' → _) := fun w' hB => latest_any w' S1 _ x.pool (fun b hb => Nat.lt_of_lt_of_le (hS1 b hb) hB.size) (hp1.below hB hS1).pool hx0.1 hx0.2.1
  have HCY : Hid (∀ w', Below w.heap.size w w' → _) := fun w' hB => latest_any w' S2 _ y.pool (fun b hb => Nat.lt_of_lt_of_le (hS2 b hb) hB.size) (hp2.below hB hS2).pool hy0.1 hy0.2.1
  clear hp1 hp2 hS1 hS2 hx0 hy0
  have k0 := (Below.refl w.heap.size w).drew
  obtain ⟨x0, x1, x2, x3, x4, x5, x6, x7⟩ := HX.out _ (Below.refl _ _)
  obtain ⟨y0, y1, y2, y3, y4, y5, y6, y7⟩ := HY.out _ (Below.refl _ _)
  generalize x.pool.latest = vx at *
  generalize y.pool.latest = vy at *
  go_enter Try.func23, Try.ntmps23
  go_wp2_with fail
  go_region_held3 (fun w' => w'.cell? ⟨b1, 3, none⟩ = some (.int .i64 x.pool.tx) ∧ w'.cell? ⟨b1, 4, none⟩ = some (.int .i64 x.pool.time) ∧ w'.cell? ⟨b1, 5, none⟩ = some (.int .i64 x.pool.unit) ∧ w'.cell? ⟨b1, 6, none⟩ = some (.int .i64 x.pool.data) ∧ w'.cell? ⟨b1, 7, none⟩ = some (.slice A1 x.pool.devs.length n1) ∧ w'.cell? ⟨b2, 3, none⟩ = some (.int .i64 y.pool.tx) ∧ w'.cell? ⟨b2, 4, none⟩ = some (.int .i64 y.pool.time) ∧ w'.cell? ⟨b2, 5, none⟩ = some (.int .i64 y.pool.unit) ∧ w'.cell? ⟨b2, 6, none⟩ = some (.int .i64 y.pool.data) ∧ w'.cell? ⟨b2, 7, none⟩ = some (.slice A2 y.pool.devs.length n2)) (go_keep)
    (first
      | (go_at_call 24; refine (HCY.out _ k2).mono ?_; rintro e w3 ⟨rfl, hB3⟩; have k3 := k2.trans (hB3.mono k2.size); obtain ⟨x0, x1, x2, x3, x4, x5, x6, x7⟩ := HX.out _ k3; obtain ⟨y0, y1, y2, y3, y4, y5, y6, y7⟩ := HY.out _ k3)
      | (go_at_call 24; refine (HCX.out _ k0).mono ?_; rintro e w2 ⟨rfl, hB2⟩; have k2 := k0.trans (hB2.mono k0.size); obtain ⟨x0, x1, x2, x3, x4, x5, x6, x7⟩ := HX.out _ k2; obtain ⟨y0, y1, y2, y3, y4, y5, y6, y7⟩ := HY.out _ k2)
      | (go_at_call 21; refine (cmp_any _ _ _).mono ?_; rintro e w' ⟨rfl, rfl⟩))
  go_wp2_with fail
  go_ret
  exact ⟨rfl, k3⟩

theorem step3 (w : World) (b1 b2 : Nat) (x y : Cand) (A1 A2 : Option Addr) (n1 n2 : Nat) (h1 : CBox w b1 x A1 n1) (h2 : CBox w b2 y A2 n2) :
    Calls Try.prog 25 #[.pointer (some ⟨b1, 0, none⟩), .pointer (some ⟨b2, 0, none⟩)] w fun e w' => e = .returned (.int .i64 (cmpI x.pool.devs.length y.pool.devs.length)) ∧ Below w.heap.size w w' := by
  obtain ⟨x0, x1, x2, x3, x4, x5, x6, x7⟩ := h1.cells
  obtain ⟨y0, y1, y2, y3, y4, y5, y6, y7⟩ := h2.cells
  go_enter Try.func25, Try.ntmps25
  go_wp2_with (go_at_call 21; refine (cmp_any _ _ _).mono ?_; rintro e w' ⟨rfl, rfl⟩)
  go_ret
  exact ⟨rfl, Below.refl _ _⟩

theorem step4 (w : World) (S1 S2 : Nat → Prop) (b1 b2 : Nat) (x y : Cand) (A1 A2 : Option Addr) (n1 n2 : Nat) (h1 : CBox w b1 x A1 n1) (h2 : CBox w b2 y A2 n2) (hS1 : ∀ b, S1 b → b < w.heap.size) (hS2 : ∀ b, S2 b → b < w.heap.size) (hp1 : IsCand w S1 (candV x A1 n1) x) (hp2 : IsCand w S2 (candV y A2 n2) y) (hx0 : x.few) (hy0 : y.few) :
    Calls Try.prog 26 #[.pointer (some ⟨b1, 0, none⟩), .pointer (some ⟨b2, 0, none⟩)] w fun e w' => e = .returned (.int .i64 (cmpI x.pool.count y.pool.count)) ∧ Below w.heap.size w w' := by
  have hx := h1.lt
  have hy := h2.lt
  have HX : Hid (∀ w', Below w.heap.size w w' → _) := fun w' hB => (h1.below hB hx).cells
  have HY : Hid (∀ w', Below w.heap.size w w' → _) := fun w' hB => (h2.below hB hy).cells
  have HCX : Hid (∀ w', Below w.heap.size w w' → _) := fun w' hB => count_any w' S1 _ x.pool (fun b hb => Nat.lt_of_lt_of_le (hS1 b hb) hB.size) (hp1.below hB hS1).pool hx0.2.1 hx0.2.2
  have HCY : Hid (∀ w', Below w.heap.size w w' → _) := fun w' hB => count_any w' S2 _ y.pool (fun b hb => Nat.lt_of_lt_of_le (hS2 b hb) hB.size) (hp2.below hB hS2).pool hy0.2.1 hy0.2.2
  clear hp1 hp2 hS1 hS2 hx0 hy0
  have k0 := (Below.refl w.heap.size w).drew
  obtain ⟨x0, x1, x2, x3, x4, x5, x6, x7⟩ := HX.out _ (Below.refl _ _)
  obtain ⟨y0, y1, y2, y3, y4, y5, y6, y7⟩ := HY.out _ (Below.refl _ _)
  generalize x.pool.count = vx at *
  generalize y.pool.count = vy at *
  go_enter Try.func26, Try.ntmps26
  go_wp2_with fail
  go_region_held3 (fun w' => w'.cell? ⟨b1, 3, none⟩ = some (.int .i64 x.pool.tx) ∧ w'.cell? ⟨b1, 4, none⟩ = some (.int .i64 x.pool.time) ∧ w'.cell? ⟨b1, 5, none⟩ = some (.int .i64 x.pool.unit) ∧ w'.cell? ⟨b1, 6, none⟩ = some (.int .i64 x.pool.data) ∧ w'.cell? ⟨b1, 7, none⟩ = some (.slice A1 x.pool.devs.length n1) ∧ w'.cell? ⟨b2, 3, none⟩ = some (.int .i64 y.pool.tx) ∧ w'.cell? ⟨b2, 4, none⟩ = some (.int .i64 y.pool.time) ∧ w'.cell? ⟨b2, 5, none⟩ = some (.int .i64 y.pool.unit) ∧ w'.cell? ⟨b2, 6, none⟩ = some (.int .i64 y.pool.data) ∧ w'.cell? ⟨b2, 7, none⟩ = some (.slice A2 y.pool.devs.length n2)) (go_keep)
    (first
      | (go_at_call 27; refine (HCY.out _ k2).mono ?_; rintro e w3 ⟨rfl, hB3⟩; have k3 := k2.trans (hB3.mono k2.size); obtain ⟨x0, x1, x2, x3, x4, x5, x6, x7⟩ := HX.out _ k3; obtain ⟨y0, y1, y2, y3, y4, y5, y6, y7⟩ := HY.out _ k3)
      | (go_at_call 27; refine (HCX.out _ k0).mono ?_; rintro e w2 ⟨rfl, hB2⟩; have k2 := k0.trans (hB2.mono k0.size); obtain ⟨x0, x1, x2, x3, x4, x5, x6, x7⟩ := HX.out _ k2; obtain ⟨y0, y1, y2, y3, y4, y5, y6, y7⟩ := HY.out _ k2)
      | (go_at_call 21; refine (cmp_any _ _ _).mono ?_; rintro e w' ⟨rfl, rfl⟩))
  go_wp2_with fail
  go_ret
  exact ⟨rfl, k3⟩

theorem step5 (w : World) (b1 b2 : Nat) (x y : Cand) (A1 A2 : Option Addr) (n1 n2 : Nat) (h1 : CBox w b1 x A1 n1) (h2 : CBox w b2 y A2 n2) :
    Calls Try.prog 28 #[.pointer (some ⟨b1, 0, none⟩), .pointer (some ⟨b2, 0, none⟩)] w fun e w' => e = .returned (.int .i64 (cmpI x.top y.top)) ∧ Below w.heap.size w w' := by
  obtain ⟨x0, x1, x2, x3, x4, x5, x6, x7⟩ := h1.cells
  obtain ⟨y0, y1, y2, y3, y4, y5, y6, y7⟩ := h2.cells
  go_enter Try.func28, Try.ntmps28
  go_wp2_with (go_at_call 21; refine (cmp_any _ _ _).mono ?_; rintro e w' ⟨rfl, rfl⟩)
  go_ret
  exact ⟨rfl, Below.refl _ _⟩

theorem step6 (w : World) (b1 b2 : Nat) (x y : Cand) (A1 A2 : Option Addr) (n1 n2 : Nat) (h1 : CBox w b1 x A1 n1) (h2 : CBox w b2 y A2 n2) :
    Calls Try.prog 29 #[.pointer (some ⟨b1, 0, none⟩), .pointer (some ⟨b2, 0, none⟩)] w fun e w' => e = .returned (.int .i64 (cmpI x.details y.details)) ∧ Below w.heap.size w w' := by
  obtain ⟨x0, x1, x2, x3, x4, x5, x6, x7⟩ := h1.cells
  obtain ⟨y0, y1, y2, y3, y4, y5, y6, y7⟩ := h2.cells
  go_enter Try.func29, Try.ntmps29
  go_wp2_with (go_at_call 21; refine (cmp_any _ _ _).mono ?_; rintro e w' ⟨rfl, rfl⟩)
  go_ret
  exact ⟨rfl, Below.refl _ _⟩
end Go.Proofs.Ytolpgblegbahgaa
