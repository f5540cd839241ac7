/- size.Need, scantlingref20.Need, size.Fits, scantlingref20.Fits. Condition: the numbers fit into Go's int, and no slice is longer than the reach. -/
import Derived.Test.YtooffkhdanimbaaWSize9
namespace Go.Proofs.Ytooffkhdanimbaa
open Go.RowKit
attribute [local go_sem] Oper.semAt_some

set_option maxHeartbeats 1600000 in
theorem need_any (w : World) (S : Nat → Prop) (v : Value) (p : Pool) (hS : ∀ b, S b → b < w.heap.size) (h : IsPool w S v p) (hok : p.ok) :
    Calls Try.prog 12 #[v] w fun e w' => e = .returned (.int .i64 (needN p)) ∧ Below w.heap.size w w' := by
  have h0 := h
  obtain ⟨A, c, rfl, hc, hr⟩ := h
  have hB1 : Below w.heap.size w (w.alloc (poolBox p A p.devs.length c)) := (Below.refl _ _).alloc (Nat.le_refl _) _
  have HBA := Lib.hid (base_any (w.alloc (poolBox p A p.devs.length c)) S _ p (fun b hb => by have := hS b hb; simp; omega) (h0.below hB1 hS) hok)
  have hb := baseN_bounds p
  have HN := Lib.hid (show needN p = needB (baseN p) from rfl)
  clear h0 hr
  dsimp only [poolBox] at hB1 HBA
  generalize baseN p = b at *
  rw [HN.out]
  by_cases hz : b = 0
  · subst hz
    have e : needB 0 = 0 := by simp [needB]
    rw [e]
    clear e HN
    go_enter Try.func12, Try.ntmps12
    go_wp2_with (go_at_call 10; refine HBA.out.mono ?_; rintro e w2 ⟨rfl, hB2⟩)
    go_ret
    exact ⟨rfl, hB1.trans (hB2.mono (by simp))⟩
  · have hzb : (b == 0) = false := by simp [hz]
    have e : needB b = b + 2 + (b + 2 - 1) / 959 + 1 := by unfold needB; rw [if_neg hz]; omega
    rw [e]
    clear e HN hz
    go_enter Try.func12, Try.ntmps12
    go_wp2_with (go_at_call 10; refine HBA.out.mono ?_; rintro e w2 ⟨rfl, hB2⟩)
    go_ret
    exact ⟨rfl, hB1.trans (hB2.mono (by simp))⟩
set_option maxHeartbeats 1600000 in
theorem rneed_any (w : World) (S : Nat → Prop) (v : Value) (p : Pool) (hS : ∀ b, S b → b < w.heap.size) (h : IsPool w S v p) (hok : p.ok) :
    Calls Try.prog 13 #[v] w fun e w' => e = .returned (.int .i64 (needN p)) ∧ Below w.heap.size w w' := by
  have h0 := h
  obtain ⟨A, c, rfl, hc, hr⟩ := h
  have hB1 : Below w.heap.size w (w.alloc (poolBox p A p.devs.length c)) := (Below.refl _ _).alloc (Nat.le_refl _) _
  have HBA := Lib.hid (rbase_any (w.alloc (poolBox p A p.devs.length c)) S _ p (fun b hb => by have := hS b hb; simp; omega) (h0.below hB1 hS) hok)
  have hb := baseN_bounds p
  have HN := Lib.hid (show needN p = needB (baseN p) from rfl)
  clear h0 hr
  dsimp only [poolBox] at hB1 HBA
  generalize baseN p = b at *
  rw [HN.out]
  by_cases hz : b = 0
  · subst hz
    have e : needB 0 = 0 := by simp [needB]
    rw [e]
    clear e HN
    go_enter Try.func13, Try.ntmps13
    go_wp2_with (go_at_call 11; refine HBA.out.mono ?_; rintro e w2 ⟨rfl, hB2⟩)
    go_ret
    exact ⟨rfl, hB1.trans (hB2.mono (by simp))⟩
  · have hzb : (b == 0) = false := by simp [hz]
    have h1 : 1 ≤ b := by omega
    have hlo : b + 2 ≤ needB b := by unfold needB; rw [if_neg hz]; omega
    have hhi := (needB_bounds hb).2
    have HL := Lib.hid (fun n hn => need_least (b := b) (n := n) h1 hn)
    have HBM := Lib.hid (fun w' n (hn : n ≤ 1099511627776) => rbitmaps_any w' n hn)
    clear HN hz
    generalize needB b = nd at *
    go_enter Try.func13, Try.ntmps13
    go_wp2_with (go_at_call 11; refine HBA.out.mono ?_; rintro e w2 ⟨rfl, hB2⟩)
    go_loop [4] (fun t => ∃ n : Int, t = .int .i64 n ∧ b + 2 ≤ n ∧ n ≤ nd) (fun t => (nd - intOf t).toNat)
    case atStart => exact ⟨_, rfl, by omega, by omega⟩
    case round =>
      obtain ⟨n, rfl, hn1, hn2⟩ := hrel
      have hl := HL.out n hn1
      have hbn : 0 ≤ bitsN n ∧ bitsN n ≤ n := by unfold bitsN; split <;> omega
      have HBN := Lib.hid (fun w' => HBM.out w' n (by omega))
      generalize bitsN n = bn at *
      by_cases hlt : n < nd
      · have hgt : n < b + 2 + bn := by omega
        clear hl
        go_wp2_with (go_at_call 9; refine (HBN.out _).mono ?_; rintro e w3 ⟨rfl, rfl⟩)
        go_round
        case rel => exact ⟨n + 1, rfl, by omega, by omega⟩
        case measure => simp [intOf]; omega
      · obtain rfl : n = nd := by omega
        have hgt : ¬ n < b + 2 + bn := by omega
        clear hl
        go_wp2_with (go_at_call 9; refine (HBN.out _).mono ?_; rintro e w3 ⟨rfl, rfl⟩)
        go_ret
        exact ⟨rfl, hB1.trans (hB2.mono (by simp))⟩
set_option maxHeartbeats 1600000 in
theorem fits_any (w : World) (S : Nat → Prop) (v : Value) (p : Pool) (n : Int) (hS : ∀ b, S b → b < w.heap.size) (h : IsPool w S v p) (hok : p.ok) :
    Calls Try.prog 14 #[v, .int .i64 n] w fun e w' => e = .returned (.bool (fitsB p n)) ∧ Below w.heap.size w w' := by
  have h0 := h
  obtain ⟨A, c, rfl, hc, hr⟩ := h
  have hB1 : Below w.heap.size w (w.alloc (poolBox p A p.devs.length c)) := (Below.refl _ _).alloc (Nat.le_refl _) _
  have HND := Lib.hid (need_any (w.alloc (poolBox p A p.devs.length c)) S _ p (fun b hb => by have := hS b hb; simp; omega) (h0.below hB1 hS) hok)
  have hb := needN_bounds p
  clear h0 hr
  dsimp only [poolBox] at hB1 HND
  have HF := Lib.hid (show fitsB p n = decide (0 < needN p ∧ needN p ≤ n ∧ n ≤ 14400) from rfl)
  generalize needN p = nd at *
  by_cases h1 : 0 < nd
  · by_cases h2 : nd ≤ n
    · by_cases h3 : n ≤ 14400
      · have HE := Lib.hid (HF.out.trans (by simp [h1, h2, h3] : _ = true))
        go_enter Try.func14, Try.ntmps14
        go_wp2_with (go_at_call 12; refine HND.out.mono ?_; rintro e w2 ⟨rfl, hB2⟩)
        go_ret
        exact ⟨ret_bool HE.out.symm, hB1.trans (hB2.mono (by simp))⟩
      · have HE := Lib.hid (HF.out.trans (by simp [h3] : _ = false))
        go_enter Try.func14, Try.ntmps14
        go_wp2_with (go_at_call 12; refine HND.out.mono ?_; rintro e w2 ⟨rfl, hB2⟩)
        go_ret
        exact ⟨ret_bool (by rw [HE.out]; simp only [decide_eq_false_iff_not]; omega), hB1.trans (hB2.mono (by simp))⟩
    · have HE := Lib.hid (HF.out.trans (by simp [h2] : _ = false))
      have hd2 : decide (nd ≤ n) = false := by simp [h2]
      go_enter Try.func14, Try.ntmps14
      go_wp2_with (go_at_call 12; refine HND.out.mono ?_; rintro e w2 ⟨rfl, hB2⟩)
      go_ret
      exact ⟨ret_bool HE.out.symm, hB1.trans (hB2.mono (by simp))⟩
  · have HE := Lib.hid (HF.out.trans (by simp [h1] : _ = false))
    have hd1 : decide (0 < nd) = false := by simp [h1]
    go_enter Try.func14, Try.ntmps14
    go_wp2_with (go_at_call 12; refine HND.out.mono ?_; rintro e w2 ⟨rfl, hB2⟩)
    go_ret
    exact ⟨ret_bool HE.out.symm, hB1.trans (hB2.mono (by simp))⟩
set_option maxHeartbeats 1600000 in
theorem rfits_any (w : World) (S : Nat → Prop) (v : Value) (p : Pool) (n : Int) (hS : ∀ b, S b → b < w.heap.size) (h : IsPool w S v p) (hok : p.ok) :
    Calls Try.prog 15 #[v, .int .i64 n] w fun e w' => e = .returned (.bool (fitsB p n)) ∧ Below w.heap.size w w' := by
  have h0 := h
  obtain ⟨A, c, rfl, hc, hr⟩ := h
  obtain ⟨w1, hw1⟩ : ∃ w1, w1 = w.alloc (poolBox p A p.devs.length c) := ⟨_, rfl⟩
  have hB1 : Below w.heap.size w w1 := by rw [hw1]; exact (Below.refl _ _).alloc (Nat.le_refl _) _
  have hpb : PBox w1 w.heap.size p A p.devs.length c := by rw [hw1]; exact PBox.new w p A _ c
  have hk0 : Below w1.heap.size w1 (w.alloc (poolBox p A p.devs.length c)) := by rw [← hw1]; exact Below.refl _ _
  have hup : ∀ w', Below w.heap.size w w' → ∀ b, S b → b < w'.heap.size := fun w' hB b hb => Nat.lt_of_lt_of_le (hS b hb) hB.size
  have hs1 : w1.heap.size = w.heap.size + 1 := by rw [hw1]; simp
  have HCK := Lib.hid (fun w' (hB : Below w.heap.size w w') => rcheck_any w' S _ p (hup w' hB) (h0.below hB hS) hok)
  have HND := Lib.hid (fun w' (hB : Below w.heap.size w w') => rneed_any w' S _ p (hup w' hB) (h0.below hB hS) hok)
  have HP := Lib.hid (fun w' (hB : Below w1.heap.size w1 w') => (hpb.below hB (by omega)).cells)
  have HUP := Lib.hid (fun w' (hB : Below w1.heap.size w1 w') => hB1.trans (hB.mono (by omega)))
  have hb := needN_bounds p
  have hnz := need_zero p
  clear h0 hr hw1 hpb hs1 hup
  dsimp only [poolBox] at hk0
  have HF := Lib.hid (show fitsB p n = decide (0 < needN p ∧ needN p ≤ n ∧ n ≤ 14400) from rfl)
  generalize needN p = nd at *
  by_cases hz : poolChk p = 0
  · have h1 : 0 < nd := by
      have : nd ≠ 0 := fun e => hnz.1 e hz
      omega
    rw [hz] at HCK
    clear hz hnz
    by_cases h2 : nd ≤ n
    · by_cases h3 : n ≤ 14400
      · have HE := Lib.hid (HF.out.trans (by simp [h1, h2, h3] : _ = true))
        go_enter Try.func15, Try.ntmps15
        go_wp2_with (first
          | (go_at_call 21; refine (HCK.out _ (HUP.out _ hk0)).mono ?_; rintro e w2 ⟨rfl, hB2⟩; have hk2 := hk0.trans (hB2.mono hk0.size); obtain ⟨x0, x1, x2, x3, x4⟩ := HP.out _ hk2)
          | (go_at_call 13; refine (HND.out _ (HUP.out _ hk2)).mono ?_; rintro e w3 ⟨rfl, hB3⟩; have hk3 := hk2.trans (hB3.mono hk2.size)))
        go_ret
        exact ⟨ret_bool HE.out.symm, HUP.out _ hk3⟩
      · have HE := Lib.hid (HF.out.trans (by simp [h3] : _ = false))
        go_enter Try.func15, Try.ntmps15
        go_wp2_with (first
          | (go_at_call 21; refine (HCK.out _ (HUP.out _ hk0)).mono ?_; rintro e w2 ⟨rfl, hB2⟩; have hk2 := hk0.trans (hB2.mono hk0.size); obtain ⟨x0, x1, x2, x3, x4⟩ := HP.out _ hk2)
          | (go_at_call 13; refine (HND.out _ (HUP.out _ hk2)).mono ?_; rintro e w3 ⟨rfl, hB3⟩; have hk3 := hk2.trans (hB3.mono hk2.size)))
        go_ret
        exact ⟨ret_bool (by rw [HE.out]; simp only [decide_eq_false_iff_not]; omega), HUP.out _ hk3⟩
    · have HE := Lib.hid (HF.out.trans (by simp [h2] : _ = false))
      have hd2 : decide (nd ≤ n) = false := by simp [h2]
      go_enter Try.func15, Try.ntmps15
      go_wp2_with (first
        | (go_at_call 21; refine (HCK.out _ (HUP.out _ hk0)).mono ?_; rintro e w2 ⟨rfl, hB2⟩; have hk2 := hk0.trans (hB2.mono hk0.size); obtain ⟨x0, x1, x2, x3, x4⟩ := HP.out _ hk2)
        | (go_at_call 13; refine (HND.out _ (HUP.out _ hk2)).mono ?_; rintro e w3 ⟨rfl, hB3⟩; have hk3 := hk2.trans (hB3.mono hk2.size)))
      go_ret
      exact ⟨ret_bool HE.out.symm, HUP.out _ hk3⟩
  · have h1 : ¬ 0 < nd := by
      have : nd = 0 := hnz.2 hz
      omega
    have HE := Lib.hid (HF.out.trans (by simp [h1] : _ = false))
    have hzb : (poolChk p == 0) = false := by simp [hz]
    clear hz hnz
    go_enter Try.func15, Try.ntmps15
    go_wp2_with (go_at_call 21; refine (HCK.out _ (HUP.out _ hk0)).mono ?_; rintro e w2 ⟨rfl, hB2⟩; have hk2 := hk0.trans (hB2.mono hk0.size); obtain ⟨x0, x1, x2, x3, x4⟩ := HP.out _ hk2)
    go_ret
    exact ⟨ret_bool HE.out.symm, HUP.out _ hk2⟩
end Go.Proofs.Ytooffkhdanimbaa
