/- scantlinglaw20.SizeLeast says yes of every pool. Condition: the numbers fit into Go's int, and no slice is longer than the reach. -/
import Derived.Test.YtooffkhdanimbaaWSizeC
namespace Go.Proofs.Ytooffkhdanimbaa
open Go.RowKit
attribute [local go_sem] Oper.semAt_some

set_option maxRecDepth 100000 in
set_option maxHeartbeats 6400000 in
theorem sizeLeast_walk (w : World) (v : Value) (p : Pool) (h : IsPool w (Lt w.heap.size) v p) (hok : p.ok) :
    Calls Try.prog 4 #[v] w fun e w' => e = .returned (.bool true) ∧ Below w.heap.size w w' := by
  have hS : ∀ b, Lt w.heap.size b → b < w.heap.size := fun b hb => hb
  have h0 := h
  obtain ⟨A, c, rfl, hc, hr⟩ := h
  obtain ⟨w1, hw1⟩ : ∃ w1, w1 = w.alloc (poolBox p A p.devs.length c) := ⟨_, rfl⟩
  have hB1 : Below w.heap.size w w1 := by rw [hw1]; exact (Below.refl _ _).alloc (Nat.le_refl _) _
  have hpb : PBox w1 w.heap.size p A p.devs.length c := by rw [hw1]; exact PBox.new w p A _ c
  have hk0 : Below w1.heap.size w1 (w.alloc (poolBox p A p.devs.length c)) := by rw [← hw1]; exact Below.refl _ _
  have hup : ∀ w', Below w.heap.size w w' → ∀ b, Lt w.heap.size b → b < w'.heap.size := fun w' hB b hb => Nat.lt_of_lt_of_le (hS b hb) hB.size
  have hs1 : w1.heap.size = w.heap.size + 1 := by rw [hw1]; simp
  have HFW := Lib.hid (fun w' (hB : Below w.heap.size w w') => few_any w' (Lt w.heap.size) _ p (hup w' hB) (h0.below hB hS) hok)
  have HCK := Lib.hid (fun w' (hB : Below w.heap.size w w') => check_any w' (Lt w.heap.size) _ p (hup w' hB) (h0.below hB hS) hok)
  have HBA := Lib.hid (fun w' (hB : Below w.heap.size w w') => base_any w' (Lt w.heap.size) _ p (hup w' hB) (h0.below hB hS) hok)
  have HND := Lib.hid (fun w' (hB : Below w.heap.size w w') => need_any w' (Lt w.heap.size) _ p (hup w' hB) (h0.below hB hS) hok)
  have HFI := Lib.hid (fun n w' (hB : Below w.heap.size w w') => fits_any w' (Lt w.heap.size) _ p n (hup w' hB) (h0.below hB hS) hok)
  have HP := Lib.hid (fun w' (hB : Below w1.heap.size w1 w') => (hpb.below hB (by omega)).cells)
  have HUP := Lib.hid (fun w' (hB : Below w1.heap.size w1 w') => hB1.trans (hB.mono (by omega)))
  clear h0 hr hw1 hpb hs1 hup hok
  dsimp only [poolBox] at hk0
  by_cases hf : fewB p = true
  · have hf1 : fewN p = 1 := by unfold fewN; rw [if_pos hf]
    rw [hf1] at HFW
    simp only [fewB, decide_eq_true_eq] at hf
    clear hf1
    by_cases hz : poolChk p = 0
    · obtain ⟨g1, g2⟩ := baseOk_bounds hz
      have hbe : baseN p = baseOk p := by unfold baseN; rw [if_pos hz]
      rw [← hbe] at g1 g2
      have hne : needN p = needB (baseN p) := rfl
      have r1 := need_room (b := baseN p) (by omega)
      have r2 := bitsN_pred (b := baseN p) (by omega)
      have r3 : needB (baseN p) ≤ 14400 := by unfold needB; rw [if_neg (by omega)]; omega
      have r4 : 0 < needB (baseN p) := by unfold needB; rw [if_neg (by omega)]; omega
      rw [← hne] at r1 r2 r3 r4
      have HF1 := HFI.out (needN p)
      have HF2 := HFI.out (needN p - 1)
      have HF3 := HFI.out 14400
      have HF4 := HFI.out 14401
      rw [fitsB_yes r4 (Int.le_refl _) r3] at HF1
      rw [fitsB_no (by omega)] at HF2
      rw [fitsB_yes r4 r3 (by omega)] at HF3
      rw [fitsB_no (by omega)] at HF4
      have HF1 := Lib.hid HF1
      have HF2 := Lib.hid HF2
      have HF3 := Lib.hid HF3
      have HF4 := Lib.hid HF4
      have HBM1 := Lib.hid (fun w' => bitmaps_any w' (needN p) (by omega))
      have HBM2 := Lib.hid (fun w' => bitmaps_any w' (needN p - 1) (by omega))
      have hbs : 0 ≤ bitsN (needN p - 1) ∧ bitsN (needN p - 1) ≤ 100 := by unfold bitsN; split <;> omega
      have hbt : 0 ≤ bitsN (needN p) := by unfold bitsN; split <;> omega
      rw [hz] at HCK
      clear hz hbe hne HFI hf
      generalize bitsN (needN p - 1) = bM at *
      generalize bitsN (needN p) = bN at *
      generalize baseN p = b at *
      generalize needN p = nd at *
      rename_i HF1' HF2' HF3' HF4'
      clear HF1' HF2' HF3' HF4'
      go_enter Try.func4, Try.ntmps4
      go_wp2_with (go_at_call 6; refine (HFW.out _ (HUP.out _ hk0)).mono ?_; rintro e w2 ⟨rfl, hB2⟩; have hk2 := hk0.trans (hB2.mono hk0.size); obtain ⟨x0, x1, x2, x3, x4⟩ := HP.out _ hk2)
      have hk2 := hk2.drew
      go_region_held3 (fun w' => w'.cell? ⟨w.heap.size, 0, none⟩ = some (.int .i64 p.tx) ∧ w'.cell? ⟨w.heap.size, 1, none⟩ = some (.int .i64 p.time) ∧ w'.cell? ⟨w.heap.size, 2, none⟩ = some (.int .i64 p.unit) ∧ w'.cell? ⟨w.heap.size, 3, none⟩ = some (.int .i64 p.data) ∧ w'.cell? ⟨w.heap.size, 4, none⟩ = some (.slice A p.devs.length c)) (go_keep)
        (first
          | (go_at_call 12; refine (HND.out _ (HUP.out _ hk2)).mono ?_; rintro e w3 ⟨rfl, hB3⟩; have hk3 := hk2.trans (hB3.mono hk2.size); clear x0 x1 x2 x3 x4; obtain ⟨x0, x1, x2, x3, x4⟩ := HP.out _ hk3)
          | (go_at_call 10; refine (HBA.out _ (HUP.out _ hk3)).mono ?_; rintro e w4 ⟨rfl, hB4⟩; have hk4 := hk3.trans (hB4.mono hk3.size); clear x0 x1 x2 x3 x4; obtain ⟨x0, x1, x2, x3, x4⟩ := HP.out _ hk4))
      go_wp2_with (first
        | (go_at_call 16; refine (HCK.out _ (HUP.out _ hk4)).mono ?_; rintro e w5 ⟨rfl, hB5⟩; have hk5 := hk4.trans (hB5.mono hk4.size); clear x0 x1 x2 x3 x4; obtain ⟨x0, x1, x2, x3, x4⟩ := HP.out _ hk5)
        | (go_at_call 8; (with_reducible refine (HBM1.out _).mono ?_); rintro e w' ⟨rfl, rfl⟩)
        | (go_at_call 8; (with_reducible refine (HBM2.out _).mono ?_); rintro e w' ⟨rfl, rfl⟩)
        | (go_at_call 14; (with_reducible refine (HF1.out _ (HUP.out _ hk5)).mono ?_); rintro e w6 ⟨rfl, hB6⟩; have hk6 := hk5.trans (hB6.mono hk5.size); clear x0 x1 x2 x3 x4; obtain ⟨x0, x1, x2, x3, x4⟩ := HP.out _ hk6)
        | (go_at_call 14; (with_reducible refine (HF2.out _ (HUP.out _ hk6)).mono ?_); rintro e w7 ⟨rfl, hB7⟩; have hk7 := hk6.trans (hB7.mono hk6.size); clear x0 x1 x2 x3 x4; obtain ⟨x0, x1, x2, x3, x4⟩ := HP.out _ hk7)
        | (go_at_call 14; (with_reducible refine (HF3.out _ (HUP.out _ hk7)).mono ?_); rintro e w8 ⟨rfl, hB8⟩; have hk8 := hk7.trans (hB8.mono hk7.size); clear x0 x1 x2 x3 x4; obtain ⟨x0, x1, x2, x3, x4⟩ := HP.out _ hk8)
        | (go_at_call 14; (with_reducible refine (HF4.out _ (HUP.out _ hk8)).mono ?_); rintro e w9 ⟨rfl, hB9⟩; have hk9 := hk8.trans (hB9.mono hk8.size); clear x0 x1 x2 x3 x4; obtain ⟨x0, x1, x2, x3, x4⟩ := HP.out _ hk9)
        | (go_at_call 7; refine (lives20 _).mono ?_; rintro e wa ⟨rfl, hBa⟩; have hka := hk9.trans (hBa.mono hk9.size)))
      go_ret
      exact ⟨rfl, HUP.out _ hka⟩
    · have hnz := (need_zero p).2 hz
      have hbz : baseN p = 0 := by unfold baseN; rw [if_neg hz]
      have HF1 := HFI.out 1000
      rw [fitsB_no (by omega)] at HF1
      have HF1 := Lib.hid HF1
      rw [hnz] at HND
      rw [hbz] at HBA
      have hzb : (poolChk p != 0) = true := by simp [hz]
      rename_i HF1'
      clear HF1' hnz hbz HFI hf hz
      go_enter Try.func4, Try.ntmps4
      go_wp2_with (go_at_call 6; refine (HFW.out _ (HUP.out _ hk0)).mono ?_; rintro e w2 ⟨rfl, hB2⟩; have hk2 := hk0.trans (hB2.mono hk0.size); obtain ⟨x0, x1, x2, x3, x4⟩ := HP.out _ hk2)
      have hk2 := hk2.drew
      go_region_held3 (fun w' => w'.cell? ⟨w.heap.size, 0, none⟩ = some (.int .i64 p.tx) ∧ w'.cell? ⟨w.heap.size, 1, none⟩ = some (.int .i64 p.time) ∧ w'.cell? ⟨w.heap.size, 2, none⟩ = some (.int .i64 p.unit) ∧ w'.cell? ⟨w.heap.size, 3, none⟩ = some (.int .i64 p.data) ∧ w'.cell? ⟨w.heap.size, 4, none⟩ = some (.slice A p.devs.length c)) (go_keep)
        (first
          | (go_at_call 12; refine (HND.out _ (HUP.out _ hk2)).mono ?_; rintro e w3 ⟨rfl, hB3⟩; have hk3 := hk2.trans (hB3.mono hk2.size); clear x0 x1 x2 x3 x4; obtain ⟨x0, x1, x2, x3, x4⟩ := HP.out _ hk3)
          | (go_at_call 10; refine (HBA.out _ (HUP.out _ hk3)).mono ?_; rintro e w4 ⟨rfl, hB4⟩; have hk4 := hk3.trans (hB4.mono hk3.size); clear x0 x1 x2 x3 x4; obtain ⟨x0, x1, x2, x3, x4⟩ := HP.out _ hk4))
      go_wp2_with (first
        | (go_at_call 16; refine (HCK.out _ (HUP.out _ hk4)).mono ?_; rintro e w5 ⟨rfl, hB5⟩; have hk5 := hk4.trans (hB5.mono hk4.size); clear x0 x1 x2 x3 x4; obtain ⟨x0, x1, x2, x3, x4⟩ := HP.out _ hk5)
        | (go_at_call 14; (with_reducible refine (HF1.out _ (HUP.out _ hk5)).mono ?_); rintro e w6 ⟨rfl, hB6⟩; have hk6 := hk5.trans (hB6.mono hk5.size); clear x0 x1 x2 x3 x4; obtain ⟨x0, x1, x2, x3, x4⟩ := HP.out _ hk6)
        | (go_at_call 7; refine (lives20 _).mono ?_; rintro e wa ⟨rfl, hBa⟩; have hka := hk6.trans (hBa.mono hk6.size)))
      go_ret
      exact ⟨rfl, HUP.out _ hka⟩
  · have hf1 : fewN p = 0 := by unfold fewN; rw [if_neg hf]
    rw [hf1] at HFW
    clear hf hf1
    go_enter Try.func4, Try.ntmps4
    go_wp2_with (first
      | (go_at_call 6; refine (HFW.out _ (HUP.out _ hk0)).mono ?_; rintro e w2 ⟨rfl, hB2⟩; have hk2 := hk0.trans (hB2.mono hk0.size))
      | (go_at_call 7; refine (lives20 _).mono ?_; rintro e w9 ⟨rfl, hB9⟩; have hk9 := hk2.trans (hB9.mono hk2.size)))
    go_ret
    exact ⟨rfl, HUP.out _ hk9⟩
end Go.Proofs.Ytooffkhdanimbaa
