/- scantlingref36.numbers: four numbers of a candidate. Condition: the pool is small. -/
import Derived.Test.YtolpgblegbahgaaRankP
import Derived.Test.YtolpgblegbahgaaWRLatestP
import Derived.Test.YtolpgblegbahgaaWRank4
import Derived.Test.YtolpgblegbahgaaRegT
import Derived.Deep.Cut
import Derived.Deep.DeepCutAuto
namespace Go.Proofs.Ytolpgblegbahgaa
open Go.RowKit
attribute [local go_sem] Oper.semAt_some
set_option linter.unusedVariables false
set_option linter.unusedSimpArgs false

/-- a candidate's box, whatever its type -/
def CBoxT (t : TypeId) (w : World) (b : Nat) (c : Cand) (A : Option Addr) (n : Nat) : Prop := w.heap[b]? = some (.cells (c.cells A n) t (0, 0))
theorem CBoxT.cells {t : TypeId} {w : World} {b : Nat} {c : Cand} {A : Option Addr} {n : Nat} (h : CBoxT t w b c A n) : w.cell? ⟨b, 0, none⟩ = some (.bool c.super) ∧ w.cell? ⟨b, 1, none⟩ = some (.int .i64 c.top) ∧ w.cell? ⟨b, 2, none⟩ = some (.int .i64 c.details) ∧ w.cell? ⟨b, 3, none⟩ = some (.int .i64 c.pool.tx) ∧ w.cell? ⟨b, 4, none⟩ = some (.int .i64 c.pool.time) ∧ w.cell? ⟨b, 5, none⟩ = some (.int .i64 c.pool.unit) ∧ w.cell? ⟨b, 6, none⟩ = some (.int .i64 c.pool.data) ∧ w.cell? ⟨b, 7, none⟩ = some (.slice A c.pool.devs.length n) := by
  unfold CBoxT at h
  simp [World.cell?, h, Cand.cells]
def superI (c : Cand) : Int := if c.super = true then 1 else 0
def nums (c : Cand) : List Int := [superI c, c.pool.latest, c.pool.devs.length, c.pool.count]
def NumsAt (w : World) (g : Nat) (c : Cand) : Prop := w.heap[g]? = some (.cells #[.int .i64 (superI c), .int .i64 c.pool.latest, .int .i64 c.pool.devs.length, .int .i64 c.pool.count] 3 (0, 0))
set_option maxRecDepth 100000 in
set_option maxHeartbeats 3200000 in
theorem rnumbers_any (w : World) (S : Nat → Prop) (v : Value) (x : Cand) (hS : ∀ b, S b → b < w.heap.size) (h : IsCand w S v x) (hf : x.few) :
    Calls Try.prog 15 #[v] w fun e w' => ∃ g, e = .returned (.slice (some ⟨g, 0, none⟩) 4 4) ∧ w.heap.size ≤ g ∧ NumsAt w' g x ∧ Below w.heap.size w w' := by
  have h0 := h
  obtain ⟨A, n, rfl, hn, hr⟩ := h
  obtain ⟨wA, hwA⟩ : ∃ wA, w.alloc (.cells (x.cells A n) 35) = wA := ⟨_, rfl⟩
  have hB2 : Below w.heap.size w wA := by rw [← hwA]; exact (Below.refl _ _).alloc (Nat.le_refl _) _
  have hbx : CBoxT 35 wA w.heap.size x A n := by rw [← hwA]; exact heap_alloc_new w _
  have hzA : w.heap.size < wA.heap.size := by rw [← hwA]; simp
  have HLA := Lib.hid (fun w' (hB : Below wA.heap.size wA w') => rlatest_any w' S _ x.pool (fun b hb => by have := hS b hb; have := hB.size; omega) (h0.below (hB2.trans (hB.mono hB2.size)) hS).pool hf.1 hf.2.1)
  have HCO := Lib.hid (fun w' (hB : Below wA.heap.size wA w') => rcount_any w' S _ x.pool (fun b hb => by have := hS b hb; have := hB.size; omega) (h0.below (hB2.trans (hB.mono hB2.size)) hS).pool hf.2.1 hf.2.2)
  have HC := Lib.hid (fun w' (hB : Below wA.heap.size wA w') => CBoxT.cells ((hB.block w.heap.size hzA).trans hbx))
  clear hr h0 hbx
  obtain ⟨c0, c1, c2, c3, c4, c5, c6, c7⟩ := HC.out wA (Below.refl _ _)
  have HSI : Hid (superI x = if x.super = true then 1 else 0) := rfl
  dsimp only [candV, Cand.cells] at hwA ⊢
  go_enter Try.func15, Try.ntmps15
  go_upto_region 2 with fail
  clear hwA
  by_cases hs : x.super = true
  · rw [hs] at c0
    have kk0 := Below.refl wA.heap.size wA
    go_upto_region 4 with fail
    refine wp_region_till (T := fun _ => false) (S := fun w' => Below wA.heap.size wA w') (by kernel_rfl) (Below.refl wA.heap.size wA).drew (fun hHeld => ?_)
    obtain ⟨w101, hw0⟩ : ∃ x, wA.drew = x := ⟨_, rfl⟩
    rw [hw0] at hHeld ⊢
    have hkA : Below wA.heap.size wA w101 := hHeld
    clear hHeld hw0
    refine wpTill_put 0 6 (oi := _) (v := ?_) rfl rfl (by kernel_rfl) (by kernel_rfl) (by kernel_rfl) (by kernel_rfl) (fun _ _ _ h => h) (by rfl) hkA ?_ ?_
    rotate_left
    · (intro w2' hSw; go_simp; (try with_reducible rfl))
    (try simp only [Act.put, List.setIfInBounds_toArray, List.set_cons_zero, List.set_cons_succ])
    refine wpTill_put 1 7 (oi := _) (v := ?_) rfl rfl (by kernel_rfl) (by kernel_rfl) (by kernel_rfl) (by kernel_rfl) (fun _ _ _ h => h) (by rfl) hkA ?_ ?_
    rotate_left
    · (intro w2' hSw; go_simp; (try with_reducible rfl))
    (try simp only [Act.put, List.setIfInBounds_toArray, List.set_cons_zero, List.set_cons_succ])
    refine wpTill_put 2 8 (oi := _) (v := ?_) rfl rfl (by kernel_rfl) (by kernel_rfl) (by kernel_rfl) (by kernel_rfl) (fun _ _ _ h => h) (by rfl) hkA ?_ ?_
    rotate_left
    · (intro w2' hSw; obtain ⟨c0, c1, c2, c3, c4, c5, c6, c7⟩ := HC.out _ hSw; go_simp; (try with_reducible rfl))
    (try simp only [Act.put, List.setIfInBounds_toArray, List.set_cons_zero, List.set_cons_succ])
    refine wpTill_put 4 10 (oi := _) (v := ?_) rfl rfl (by kernel_rfl) (by kernel_rfl) (by kernel_rfl) (by kernel_rfl) (fun _ _ _ h => h) (by rfl) hkA ?_ ?_
    rotate_left
    · (intro w2' hSw; go_simp; (try with_reducible rfl))
    (try simp only [Act.put, List.setIfInBounds_toArray, List.set_cons_zero, List.set_cons_succ])
    refine wpTill_put 5 11 (oi := _) (v := ?_) rfl rfl (by kernel_rfl) (by kernel_rfl) (by kernel_rfl) (by kernel_rfl) (fun _ _ _ h => h) (by rfl) hkA ?_ ?_
    rotate_left
    · (intro w2' hSw; go_simp; (try with_reducible rfl))
    (try simp only [Act.put, List.setIfInBounds_toArray, List.set_cons_zero, List.set_cons_succ])
    refine wpTill_put 6 12 (oi := _) (v := ?_) rfl rfl (by kernel_rfl) (by kernel_rfl) (by kernel_rfl) (by kernel_rfl) (fun _ _ _ h => h) (by rfl) hkA ?_ ?_
    rotate_left
    · (intro w2' hSw; obtain ⟨c0, c1, c2, c3, c4, c5, c6, c7⟩ := HC.out _ hSw; go_simp; (try with_reducible rfl))
    (try simp only [Act.put, List.setIfInBounds_toArray, List.set_cons_zero, List.set_cons_succ])
    refine wpTill_put 7 13 (oi := _) (v := ?_) rfl rfl (by kernel_rfl) (by kernel_rfl) (by kernel_rfl) (by kernel_rfl) (fun _ _ _ h => h) (by rfl) hkA ?_ ?_
    rotate_left
    · (intro w2' hSw; go_simp; (try with_reducible rfl))
    (try simp only [Act.put, List.setIfInBounds_toArray, List.set_cons_zero, List.set_cons_succ])
    refine wpTill_put 8 14 (oi := _) (v := ?_) rfl rfl (by kernel_rfl) (by kernel_rfl) (by kernel_rfl) (by kernel_rfl) (fun _ _ _ h => h) (by rfl) hkA ?_ ?_
    rotate_left
    · (intro w2' hSw; go_simp; (try with_reducible rfl))
    (try simp only [Act.put, List.setIfInBounds_toArray, List.set_cons_zero, List.set_cons_succ])
    refine wpTill_put 9 15 (oi := _) (v := ?_) rfl rfl (by kernel_rfl) (by kernel_rfl) (by kernel_rfl) (by kernel_rfl) (fun _ _ _ h => h) (by rfl) hkA ?_ ?_
    rotate_left
    · (intro w2' hSw; obtain ⟨c0, c1, c2, c3, c4, c5, c6, c7⟩ := HC.out _ hSw; go_simp; (try with_reducible rfl))
    (try simp only [Act.put, List.setIfInBounds_toArray, List.set_cons_zero, List.set_cons_succ])
    refine wpTill_one 3 (o := _) (by kernel_rfl) rfl (fun K hK => ?_)
    go_simp
    refine (HLA.out _ hkA).mono ?_
    rintro e w102 ⟨rfl, hB5⟩
    have hkA := hkA.trans (hB5.mono hkA.size)
    refine hK.out _ _ (fun _ => hkA) (fun _ => ?_)
    clear hK K
    (try simp only [Act.put, List.setIfInBounds_toArray, List.set_cons_zero, List.set_cons_succ])
    refine wpTill_one 10 (o := _) (by kernel_rfl) rfl (fun K hK => ?_)
    go_simp
    refine (HCO.out _ hkA).mono ?_
    rintro e w103 ⟨rfl, hB6⟩
    have hkA := hkA.trans (hB6.mono hkA.size)
    refine hK.out _ _ (fun _ => hkA) (fun _ => ?_)
    clear hK K
    (try simp only [Act.put, List.setIfInBounds_toArray, List.set_cons_zero, List.set_cons_succ])
    refine wpTill_one 11 (o := _) (by kernel_rfl) rfl (fun K hK => ?_)
    go_simp
    obtain ⟨w104, hwn⟩ : ∃ wx, w103.alloc (.cells #[.int .i64 1, .int .i64 x.pool.latest, .int .i64 x.pool.devs.length, .int .i64 x.pool.count] 3) = wx := ⟨_, rfl⟩
    have hBn : Below w103.heap.size w103 w104 := by rw [← hwn]; exact (Below.refl _ _).alloc (Nat.le_refl _) _
    have b11 : w104.heap[w103.heap.size]? = some (.cells #[.int .i64 1, .int .i64 x.pool.latest, .int .i64 x.pool.devs.length, .int .i64 x.pool.count] 3) := by rw [← hwn]; exact heap_alloc_new w103 _
    have hge11 := hkA.size
    have hz11 : w103.heap.size < w104.heap.size := by rw [← hwn]; simp
    have hkA := hkA.trans (hBn.mono hkA.size)
    rw [hwn]
    clear hwn hBn
    refine hK.out _ _ (fun _ => hkA) (fun _ => ?_)
    clear hK K
    (try simp only [Act.put, List.setIfInBounds_toArray, List.set_cons_zero, List.set_cons_succ])
    refine wpTill_put 12 2 (oi := _) (v := ?_) rfl rfl (by kernel_rfl) (by kernel_rfl) (by kernel_rfl) (by kernel_rfl) (fun _ _ _ h => h) (by rfl) hkA ?_ ?_
    rotate_left
    · (intro w2' hSw; go_simp; (try with_reducible rfl))
    (try simp only [Act.put, List.setIfInBounds_toArray, List.set_cons_zero, List.set_cons_succ])
    refine wpTill_done (by kernel_rfl) ?_ _
    all_goals (try go_wp2)
    go_ret
    have hwn := hkA.size
    exact ⟨_, rfl, by omega, by show _ = _; rw [HSI.out, hs]; exact b11, hB2.trans (hkA.mono hB2.size)⟩
  · rw [Bool.not_eq_true] at hs
    rw [hs] at c0
    have kk0 := Below.refl wA.heap.size wA
    go_upto_region 4 with fail
    refine wp_region_till (T := fun _ => false) (S := fun w' => Below wA.heap.size wA w') (by kernel_rfl) (Below.refl wA.heap.size wA).drew (fun hHeld => ?_)
    obtain ⟨w105, hw0⟩ : ∃ x, wA.drew = x := ⟨_, rfl⟩
    rw [hw0] at hHeld ⊢
    have hkA : Below wA.heap.size wA w105 := hHeld
    clear hHeld hw0
    refine wpTill_put 0 6 (oi := _) (v := ?_) rfl rfl (by kernel_rfl) (by kernel_rfl) (by kernel_rfl) (by kernel_rfl) (fun _ _ _ h => h) (by rfl) hkA ?_ ?_
    rotate_left
    · (intro w2' hSw; go_simp; (try with_reducible rfl))
    (try simp only [Act.put, List.setIfInBounds_toArray, List.set_cons_zero, List.set_cons_succ])
    refine wpTill_put 1 7 (oi := _) (v := ?_) rfl rfl (by kernel_rfl) (by kernel_rfl) (by kernel_rfl) (by kernel_rfl) (fun _ _ _ h => h) (by rfl) hkA ?_ ?_
    rotate_left
    · (intro w2' hSw; go_simp; (try with_reducible rfl))
    (try simp only [Act.put, List.setIfInBounds_toArray, List.set_cons_zero, List.set_cons_succ])
    refine wpTill_put 2 8 (oi := _) (v := ?_) rfl rfl (by kernel_rfl) (by kernel_rfl) (by kernel_rfl) (by kernel_rfl) (fun _ _ _ h => h) (by rfl) hkA ?_ ?_
    rotate_left
    · (intro w2' hSw; obtain ⟨c0, c1, c2, c3, c4, c5, c6, c7⟩ := HC.out _ hSw; go_simp; (try with_reducible rfl))
    (try simp only [Act.put, List.setIfInBounds_toArray, List.set_cons_zero, List.set_cons_succ])
    refine wpTill_put 4 10 (oi := _) (v := ?_) rfl rfl (by kernel_rfl) (by kernel_rfl) (by kernel_rfl) (by kernel_rfl) (fun _ _ _ h => h) (by rfl) hkA ?_ ?_
    rotate_left
    · (intro w2' hSw; go_simp; (try with_reducible rfl))
    (try simp only [Act.put, List.setIfInBounds_toArray, List.set_cons_zero, List.set_cons_succ])
    refine wpTill_put 5 11 (oi := _) (v := ?_) rfl rfl (by kernel_rfl) (by kernel_rfl) (by kernel_rfl) (by kernel_rfl) (fun _ _ _ h => h) (by rfl) hkA ?_ ?_
    rotate_left
    · (intro w2' hSw; go_simp; (try with_reducible rfl))
    (try simp only [Act.put, List.setIfInBounds_toArray, List.set_cons_zero, List.set_cons_succ])
    refine wpTill_put 6 12 (oi := _) (v := ?_) rfl rfl (by kernel_rfl) (by kernel_rfl) (by kernel_rfl) (by kernel_rfl) (fun _ _ _ h => h) (by rfl) hkA ?_ ?_
    rotate_left
    · (intro w2' hSw; obtain ⟨c0, c1, c2, c3, c4, c5, c6, c7⟩ := HC.out _ hSw; go_simp; (try with_reducible rfl))
    (try simp only [Act.put, List.setIfInBounds_toArray, List.set_cons_zero, List.set_cons_succ])
    refine wpTill_put 7 13 (oi := _) (v := ?_) rfl rfl (by kernel_rfl) (by kernel_rfl) (by kernel_rfl) (by kernel_rfl) (fun _ _ _ h => h) (by rfl) hkA ?_ ?_
    rotate_left
    · (intro w2' hSw; go_simp; (try with_reducible rfl))
    (try simp only [Act.put, List.setIfInBounds_toArray, List.set_cons_zero, List.set_cons_succ])
    refine wpTill_put 8 14 (oi := _) (v := ?_) rfl rfl (by kernel_rfl) (by kernel_rfl) (by kernel_rfl) (by kernel_rfl) (fun _ _ _ h => h) (by rfl) hkA ?_ ?_
    rotate_left
    · (intro w2' hSw; go_simp; (try with_reducible rfl))
    (try simp only [Act.put, List.setIfInBounds_toArray, List.set_cons_zero, List.set_cons_succ])
    refine wpTill_put 9 15 (oi := _) (v := ?_) rfl rfl (by kernel_rfl) (by kernel_rfl) (by kernel_rfl) (by kernel_rfl) (fun _ _ _ h => h) (by rfl) hkA ?_ ?_
    rotate_left
    · (intro w2' hSw; obtain ⟨c0, c1, c2, c3, c4, c5, c6, c7⟩ := HC.out _ hSw; go_simp; (try with_reducible rfl))
    (try simp only [Act.put, List.setIfInBounds_toArray, List.set_cons_zero, List.set_cons_succ])
    refine wpTill_one 3 (o := _) (by kernel_rfl) rfl (fun K hK => ?_)
    go_simp
    refine (HLA.out _ hkA).mono ?_
    rintro e w106 ⟨rfl, hB5⟩
    have hkA := hkA.trans (hB5.mono hkA.size)
    refine hK.out _ _ (fun _ => hkA) (fun _ => ?_)
    clear hK K
    (try simp only [Act.put, List.setIfInBounds_toArray, List.set_cons_zero, List.set_cons_succ])
    refine wpTill_one 10 (o := _) (by kernel_rfl) rfl (fun K hK => ?_)
    go_simp
    refine (HCO.out _ hkA).mono ?_
    rintro e w107 ⟨rfl, hB6⟩
    have hkA := hkA.trans (hB6.mono hkA.size)
    refine hK.out _ _ (fun _ => hkA) (fun _ => ?_)
    clear hK K
    (try simp only [Act.put, List.setIfInBounds_toArray, List.set_cons_zero, List.set_cons_succ])
    refine wpTill_one 11 (o := _) (by kernel_rfl) rfl (fun K hK => ?_)
    go_simp
    obtain ⟨w108, hwn⟩ : ∃ wx, w107.alloc (.cells #[.int .i64 0, .int .i64 x.pool.latest, .int .i64 x.pool.devs.length, .int .i64 x.pool.count] 3) = wx := ⟨_, rfl⟩
    have hBn : Below w107.heap.size w107 w108 := by rw [← hwn]; exact (Below.refl _ _).alloc (Nat.le_refl _) _
    have b11 : w108.heap[w107.heap.size]? = some (.cells #[.int .i64 0, .int .i64 x.pool.latest, .int .i64 x.pool.devs.length, .int .i64 x.pool.count] 3) := by rw [← hwn]; exact heap_alloc_new w107 _
    have hge11 := hkA.size
    have hz11 : w107.heap.size < w108.heap.size := by rw [← hwn]; simp
    have hkA := hkA.trans (hBn.mono hkA.size)
    rw [hwn]
    clear hwn hBn
    refine hK.out _ _ (fun _ => hkA) (fun _ => ?_)
    clear hK K
    (try simp only [Act.put, List.setIfInBounds_toArray, List.set_cons_zero, List.set_cons_succ])
    refine wpTill_put 12 2 (oi := _) (v := ?_) rfl rfl (by kernel_rfl) (by kernel_rfl) (by kernel_rfl) (by kernel_rfl) (fun _ _ _ h => h) (by rfl) hkA ?_ ?_
    rotate_left
    · (intro w2' hSw; go_simp; (try with_reducible rfl))
    (try simp only [Act.put, List.setIfInBounds_toArray, List.set_cons_zero, List.set_cons_succ])
    refine wpTill_done (by kernel_rfl) ?_ _
    all_goals (try go_wp2)
    go_ret
    have hwn := hkA.size
    exact ⟨_, rfl, by omega, by show _ = _; rw [HSI.out, hs]; exact b11, hB2.trans (hkA.mono hB2.size)⟩
end Go.Proofs.Ytolpgblegbahgaa
