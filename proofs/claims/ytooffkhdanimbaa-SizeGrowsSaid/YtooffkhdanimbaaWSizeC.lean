/- scantlinglaw20.SizeTells says yes of every pool. Condition: the numbers fit into Go's int, and no slice is longer than the reach. -/
import Derived.Test.YtooffkhdanimbaaWSizeB
namespace Go.Proofs.Ytooffkhdanimbaa
open Go.RowKit
attribute [local go_sem] Oper.semAt_some

set_option maxRecDepth 100000 in
set_option maxHeartbeats 6400000 in
theorem sizeTells_walk (w : World) (v : Value) (p : Pool) (n : Int) (h : IsPool w (Lt w.heap.size) v p) (hok : p.ok) (hn : In64 n) :
    Calls Try.prog 3 #[v, .int .i64 n] w fun e w' => e = .returned (.bool true) ∧ Below w.heap.size w w' := by
  have hS : ∀ b, Lt w.heap.size b → b < w.heap.size := fun b hb => hb
  have h0 := h
  obtain ⟨hn1, hn2⟩ := hn
  obtain ⟨A, c, rfl, hc, hr⟩ := h
  obtain ⟨w1, hw1⟩ : ∃ w1, w1 = w.alloc (poolBox p A p.devs.length c) := ⟨_, rfl⟩
  have hB1 : Below w.heap.size w w1 := by rw [hw1]; exact (Below.refl _ _).alloc (Nat.le_refl _) _
  have hpb : PBox w1 w.heap.size p A p.devs.length c := by rw [hw1]; exact PBox.new w p A _ c
  have hk0 : Below w1.heap.size w1 (w.alloc (poolBox p A p.devs.length c)) := by rw [← hw1]; exact Below.refl _ _
  have hup : ∀ w', Below w.heap.size w w' → ∀ b, Lt w.heap.size b → b < w'.heap.size := fun w' hB b hb => Nat.lt_of_lt_of_le (hS b hb) hB.size
  have hs1 : w1.heap.size = w.heap.size + 1 := by rw [hw1]; simp
  have HFW := Lib.hid (fun w' (hB : Below w.heap.size w w') => few_any w' (Lt w.heap.size) _ p (hup w' hB) (h0.below hB hS) hok)
  have HBA := Lib.hid (fun w' (hB : Below w.heap.size w w') => base_any w' (Lt w.heap.size) _ p (hup w' hB) (h0.below hB hS) hok)
  have HRB := Lib.hid (fun w' (hB : Below w.heap.size w w') => rbase_any w' (Lt w.heap.size) _ p (hup w' hB) (h0.below hB hS) hok)
  have HND := Lib.hid (fun w' (hB : Below w.heap.size w w') => need_any w' (Lt w.heap.size) _ p (hup w' hB) (h0.below hB hS) hok)
  have HRN := Lib.hid (fun w' (hB : Below w.heap.size w w') => rneed_any w' (Lt w.heap.size) _ p (hup w' hB) (h0.below hB hS) hok)
  have HFI := Lib.hid (fun w' (hB : Below w.heap.size w w') => fits_any w' (Lt w.heap.size) _ p n (hup w' hB) (h0.below hB hS) hok)
  have HRF := Lib.hid (fun w' (hB : Below w.heap.size w w') => rfits_any w' (Lt w.heap.size) _ p n (hup w' hB) (h0.below hB hS) hok)
  have HP := Lib.hid (fun w' (hB : Below w1.heap.size w1 w') => (hpb.below hB (by omega)).cells)
  have HUP := Lib.hid (fun w' (hB : Below w1.heap.size w1 w') => hB1.trans (hB.mono (by omega)))
  clear h0 hr hw1 hpb hs1 hup hok
  dsimp only [poolBox] at hk0
  by_cases hf : fewB p = true
  · have hf1 : fewN p = 1 := by unfold fewN; rw [if_pos hf]
    rw [hf1] at HFW
    clear hf hf1
    by_cases hle : n ≤ 1099511627776
    · have HBM := Lib.hid (fun w' => bitmaps_any w' n hle)
      have HRM := Lib.hid (fun w' => rbitmaps_any w' n hle)
      generalize bitsN n = bn at *
      generalize baseN p = b at *
      generalize needN p = nd at *
      generalize fitsB p n = fb at *
      go_enter Try.func3, Try.ntmps3
      go_wp2_with (go_at_call 6; refine (HFW.out _ (HUP.out _ hk0)).mono ?_; rintro e w2 ⟨rfl, hB2⟩; have hk2 := hk0.trans (hB2.mono hk0.size); obtain ⟨x0, x1, x2, x3, x4⟩ := HP.out _ hk2)
      have hk2 := hk2.drew
      go_region_held3 (fun w' => w'.cell? ⟨w.heap.size, 0, none⟩ = some (.int .i64 p.tx) ∧ w'.cell? ⟨w.heap.size, 1, none⟩ = some (.int .i64 p.time) ∧ w'.cell? ⟨w.heap.size, 2, none⟩ = some (.int .i64 p.unit) ∧ w'.cell? ⟨w.heap.size, 3, none⟩ = some (.int .i64 p.data) ∧ w'.cell? ⟨w.heap.size, 4, none⟩ = some (.slice A p.devs.length c)) (go_keep)
        (first
          | (go_at_call 8; refine (HBM.out _).mono ?_; rintro e w' ⟨rfl, rfl⟩)
          | (go_at_call 9; refine (HRM.out _).mono ?_; rintro e w' ⟨rfl, rfl⟩)
          | (go_at_call 10; refine (HBA.out _ (HUP.out _ hk2)).mono ?_; rintro e w3 ⟨rfl, hB3⟩; have hk3 := hk2.trans (hB3.mono hk2.size); clear x0 x1 x2 x3 x4; obtain ⟨x0, x1, x2, x3, x4⟩ := HP.out _ hk3)
          | (go_at_call 11; refine (HRB.out _ (HUP.out _ hk3)).mono ?_; rintro e w4 ⟨rfl, hB4⟩; have hk4 := hk3.trans (hB4.mono hk3.size); clear x0 x1 x2 x3 x4; obtain ⟨x0, x1, x2, x3, x4⟩ := HP.out _ hk4)
          | (go_at_call 12; refine (HND.out _ (HUP.out _ hk4)).mono ?_; rintro e w5 ⟨rfl, hB5⟩; have hk5 := hk4.trans (hB5.mono hk4.size); clear x0 x1 x2 x3 x4; obtain ⟨x0, x1, x2, x3, x4⟩ := HP.out _ hk5)
          | (go_at_call 13; refine (HRN.out _ (HUP.out _ hk5)).mono ?_; rintro e w6 ⟨rfl, hB6⟩; have hk6 := hk5.trans (hB6.mono hk5.size); clear x0 x1 x2 x3 x4; obtain ⟨x0, x1, x2, x3, x4⟩ := HP.out _ hk6)
          | (go_at_call 14; refine (HFI.out _ (HUP.out _ hk6)).mono ?_; rintro e w7 ⟨rfl, hB7⟩; have hk7 := hk6.trans (hB7.mono hk6.size); clear x0 x1 x2 x3 x4; obtain ⟨x0, x1, x2, x3, x4⟩ := HP.out _ hk7)
          | (go_at_call 15; refine (HRF.out _ (HUP.out _ hk7)).mono ?_; rintro e w8 ⟨rfl, hB8⟩; have hk8 := hk7.trans (hB8.mono hk7.size); clear x0 x1 x2 x3 x4; obtain ⟨x0, x1, x2, x3, x4⟩ := HP.out _ hk8)
          | (go_at_call 7; refine (lives20 _).mono ?_; rintro e w9 ⟨rfl, hB9⟩; have hk9 := hk8.trans (hB9.mono hk8.size); clear x0 x1 x2 x3 x4; obtain ⟨x0, x1, x2, x3, x4⟩ := HP.out _ hk9))
      go_wp2_with fail
      go_ret
      exact ⟨rfl, HUP.out _ hk9⟩
    · have hgt : 1099511627776 < n := by omega
      go_enter Try.func3, Try.ntmps3
      go_wp2_with (first
        | (go_at_call 6; refine (HFW.out _ (HUP.out _ hk0)).mono ?_; rintro e w2 ⟨rfl, hB2⟩; have hk2 := hk0.trans (hB2.mono hk0.size))
        | (go_at_call 7; refine (lives20 _).mono ?_; rintro e w9 ⟨rfl, hB9⟩; have hk9 := hk2.trans (hB9.mono hk2.size)))
      go_ret
      exact ⟨rfl, HUP.out _ hk9⟩
  · have hf1 : fewN p = 0 := by unfold fewN; rw [if_neg hf]
    rw [hf1] at HFW
    clear hf hf1
    go_enter Try.func3, Try.ntmps3
    go_wp2_with (first
      | (go_at_call 6; refine (HFW.out _ (HUP.out _ hk0)).mono ?_; rintro e w2 ⟨rfl, hB2⟩; have hk2 := hk0.trans (hB2.mono hk0.size))
      | (go_at_call 7; refine (lives20 _).mono ?_; rintro e w9 ⟨rfl, hB9⟩; have hk9 := hk2.trans (hB9.mono hk2.size)))
    go_ret
    exact ⟨rfl, HUP.out _ hk9⟩
end Go.Proofs.Ytooffkhdanimbaa
