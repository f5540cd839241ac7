/- scantlinglaw38.lives says yes. -/
import Derived.Test.YtnemfponbadcjaaWListP
import Derived.Test.YtnemfponbadcjaaExPool
namespace Go.Proofs.Ytnemfponbadcjaa
open Go.RowKit

theorem sp_cells {w : World} {S : Nat → Prop} {A : Option Addr} {l : List Sp} (h : RowOf (Flat Sp.enc) 2 sp0 w S A l) (hl : 0 < l.length) :
    ∃ b off, A = some ⟨b, off, none⟩ ∧ S b ∧ ∀ k, k < l.length → w.cell? ⟨b, off + k * 2, none⟩ = some (.int .i64 (nth sp0 l k).lo) ∧ w.cell? ⟨b, off + k * 2 + 1, none⟩ = some (.int .i64 (nth sp0 l k).hi) := by
  obtain ⟨b, off, e, hb, hc⟩ := h hl
  refine ⟨b, off, e, hb, fun k hk => ?_⟩
  obtain ⟨cs, _, hr, h3⟩ := hc k hk
  obtain rfl : cs = _ := hr
  exact ⟨h3 0 _ rfl, h3 1 _ rfl⟩
theorem ls_cells {w : World} {S : Nat → Prop} {A : Option Addr} {l : List Ls} (h : RowOf (Flat Ls.enc) 4 ls0 w S A l) (hl : 0 < l.length) :
    ∃ b off, A = some ⟨b, off, none⟩ ∧ S b ∧ ∀ k, k < l.length → w.cell? ⟨b, off + k * 4, none⟩ = some (.int .i64 (nth ls0 l k).id) ∧ w.cell? ⟨b, off + k * 4 + 1, none⟩ = some (.int .i64 (nth ls0 l k).mapped) ∧ w.cell? ⟨b, off + k * 4 + 2, none⟩ = some (.int .i64 (nth ls0 l k).own) ∧ w.cell? ⟨b, off + k * 4 + 3, none⟩ = some (.int .i64 (nth ls0 l k).shared) := by
  obtain ⟨b, off, e, hb, hc⟩ := h hl
  refine ⟨b, off, e, hb, fun k hk => ?_⟩
  obtain ⟨cs, _, hr, h3⟩ := hc k hk
  obtain rfl : cs = _ := hr
  exact ⟨h3 0 _ rfl, h3 1 _ rfl, h3 2 _ rfl, h3 3 _ rfl⟩
theorem ex_free : frOf [0, 2, 0] = [⟨0, 1⟩, ⟨2, 3⟩] := by
  simp [frOf, frFrom, frAdd, lastHi, nth]
set_option maxRecDepth 100000 in
set_option maxHeartbeats 1600000 in
theorem lives38 (w : World) : Calls Try.prog 6 #[] w fun e w' => e = .returned (.bool true) ∧ Below w.heap.size w w' := by
  have hus := fun w2 S v h hS => usage_any w2 S v exPool hS h exPool_ok
  rw [exPool_refs] at hus
  have hfr := fun w2 S v h hS => free_any w2 S v exPool hS h exPool_ok
  rw [exPool_refs, ex_free] at hfr
  have e0 : cntG 0 [0, 2, 0] = 1 := by simp [cntG]
  have e1 : cntG 1 [0, 2, 0] = 1 := by simp [cntG]
  simp only [e0, e1, List.length_cons, List.length_nil] at hus
  have HUS := Lib.hid hus
  have HFR := Lib.hid hfr
  clear hus hfr e0 e1
  have hB0 : Below w.heap.size w ((((w.alloc (.cells #[.int .i64 5, .int .i64 1, .int .i64 0] 54)).alloc (.cells #[.int .i64 7, .int .i64 1, .int .i64 0] 54)).alloc (.cells #[.int .i64 1, .int .i64 0, .int .i64 0, .int .i64 0, .slice (some ⟨w.heap.size, 0, none⟩) 1 1, .int .i64 2, .int .i64 0, .int .i64 0, .int .i64 0, .slice (some ⟨w.heap.size + 1, 0, none⟩) 1 1] 52)).alloc (.cells #[.int .i64 0, .int .i64 0, .int .i64 1, .int .i64 3, .slice (some ⟨w.heap.size + 1 + 1, 0, none⟩) 2 2] 24)) :=
    ((((Below.refl _ _).alloc (Nat.le_refl _) _).alloc (by simp) _).alloc (by simp; omega) _).alloc (by simp; omega) _
  go_enter Try.func6, Try.ntmps6
  go_wp2_with (first
   | (go_at_call 11; generalize hw4 : ((((w.alloc (.cells #[.int .i64 5, .int .i64 1, .int .i64 0] 54)).alloc (.cells #[.int .i64 7, .int .i64 1, .int .i64 0] 54)).alloc (.cells #[.int .i64 1, .int .i64 0, .int .i64 0, .int .i64 0, .slice (some ⟨w.heap.size, 0, none⟩) 1 1, .int .i64 2, .int .i64 0, .int .i64 0, .int .i64 0, .slice (some ⟨w.heap.size + 1, 0, none⟩) 1 1] 52)).alloc (.cells #[.int .i64 0, .int .i64 0, .int .i64 1, .int .i64 3, .slice (some ⟨w.heap.size + 1 + 1, 0, none⟩) 2 2] 24)) = w4 at *
      have hz4 : w4.heap.size = w.heap.size + 4 := by rw [← hw4]; simp
      have hm1 : w4.heap[w.heap.size]? = some (.cells #[.int .i64 5, .int .i64 1, .int .i64 0] 54 (0, 0)) := by rw [← hw4]; exact ha_old (ha_old (ha_old (ha_new _ _ rfl)))
      have hm2 : w4.heap[w.heap.size + 1]? = some (.cells #[.int .i64 7, .int .i64 1, .int .i64 0] 54 (0, 0)) := by rw [← hw4]; exact ha_old (ha_old (ha_new _ _ (by simp)))
      have hm3 : w4.heap[w.heap.size + 1 + 1]? = some (.cells #[.int .i64 1, .int .i64 0, .int .i64 0, .int .i64 0, .slice (some ⟨w.heap.size, 0, none⟩) 1 1, .int .i64 2, .int .i64 0, .int .i64 0, .int .i64 0, .slice (some ⟨w.heap.size + 1, 0, none⟩) 1 1] 52 (0, 0)) := by rw [← hw4]; exact ha_old (ha_new _ _ (by simp))
      have hm4 : w4.heap[w.heap.size + 1 + 1 + 1]? = some (.cells #[.int .i64 0, .int .i64 0, .int .i64 1, .int .i64 3, .slice (some ⟨w.heap.size + 1 + 1, 0, none⟩) 2 2] 24 (0, 0)) := by rw [← hw4]; exact ha_new _ _ (by simp)
      have hI4 : IsPool w4 (Lt w4.heap.size) (.agg #[.int .i64 0, .int .i64 0, .int .i64 1, .int .i64 3, .slice (some ⟨w.heap.size + 1 + 1, 0, none⟩) 2 2]) exPool := exPool_at (by simp only [Lt]; omega) (by simp only [Lt]; omega) (by simp only [Lt]; omega) hm1 hm2 hm3
      clear hw4 hm1 hm2 hm3
      refine (HUS.out w4 (Lt w4.heap.size) _ hI4 (fun _ h => h)).mono ?_
      rintro e w5 ⟨rfl, hB5⟩
      have hm5 : w5.heap[w.heap.size + 1 + 1 + 1]? = _ := (hB5.block _ (by omega)).trans hm4
      have x0 : w5.cell? ⟨w.heap.size + 1 + 1 + 1, 0, none⟩ = some (.int .i64 0) := by simp [World.cell?, hm5]
      have x1 : w5.cell? ⟨w.heap.size + 1 + 1 + 1, 1, none⟩ = some (.int .i64 0) := by simp [World.cell?, hm5]
      have x2 : w5.cell? ⟨w.heap.size + 1 + 1 + 1, 2, none⟩ = some (.int .i64 1) := by simp [World.cell?, hm5]
      have x3 : w5.cell? ⟨w.heap.size + 1 + 1 + 1, 3, none⟩ = some (.int .i64 3) := by simp [World.cell?, hm5]
      have x4 : w5.cell? ⟨w.heap.size + 1 + 1 + 1, 4, none⟩ = some (.slice (some ⟨w.heap.size + 1 + 1, 0, none⟩) 2 2) := by simp [World.cell?, hm5]
      have hs5 := hB5.size
      have hI5 := hI4.keep (fun _ h => Nat.lt_of_lt_of_le h hs5) (keep_below hB5 (fun _ h => h))
      have hB05 := hB0.trans (hB5.mono (by omega))
      clear hm4 hm5 hI4)
   | (go_at_call 12
      refine (HFR.out w5 (Lt w5.heap.size) _ hI5 (fun _ h => h)).mono ?_
      rintro e w6 ⟨v6, rfl, ⟨A6, c6, rfl, hc6, hr6⟩, hB6⟩
      have hB06 := hB05.trans (hB6.mono (by omega))
      obtain ⟨b6, o6, rfl, hb6, hcl⟩ := sp_cells hr6 (by simp)
      have q0 := hcl 0 (by simp)
      have q1 := hcl 1 (by simp)
      simp [nth] at q0 q1
      obtain ⟨q00, q01⟩ := q0
      obtain ⟨q10, q11⟩ := q1
      clear hcl hr6))
  go_ret
  exact ⟨rfl, hB06⟩
end Go.Proofs.Ytnemfponbadcjaa
