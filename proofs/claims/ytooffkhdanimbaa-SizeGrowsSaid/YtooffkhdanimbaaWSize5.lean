/- scantlingref15.Levels, Nodes: how many nodes a tree has. Condition: the entries are few. -/
import Derived.Test.YtooffkhdanimbaaWSize4
namespace Go.Proofs.Ytooffkhdanimbaa
open Go.RowKit

theorem overN_max {t n : Int} (h0 : 0 ≤ n) (h1 : n ≤ 32768) : overN n (maxN t true) ≤ 32768 := by
  unfold maxN
  simp only [Bool.true_eq_false, if_false]
  repeat' split
  all_goals (unfold overN; omega)
set_option maxHeartbeats 1600000 in
theorem rlevels_any (w : World) (t n : Int) (h : 1 ≤ t ∧ t ≤ 5) (h0 : 0 ≤ n) (h1 : n ≤ 32768) :
    Calls Try.prog 35 #[.int .i64 t, .int .i64 n] w fun e w' => ∃ v, e = .returned v ∧ IsInts w' (Btw w.heap.size w'.heap.size) v (levelsN t n) ∧ Below w.heap.size w w' := by
  have H1 := Lib.hid (fun w' => rmax_any w' t true h)
  have H2 := Lib.hid (fun w' => rmax_any w' t false h)
  have e2 : maxN t false = 18 := by simp [maxN]
  rw [e2] at H2
  have hb := maxN_bound t true
  have HS := Lib.hid (fun w' => sizes_any w' n (maxN t true) h0 h1 (by omega) (by omega))
  have hop := overN_pos n (maxN t true)
  have hol := overN_max (t := t) h0 h1
  have HL := Lib.hid (show levelsN t n = levelsUp (overN n (maxN t true)) from rfl)
  clear e2
  generalize maxN t true = s at *
  generalize overN n s = k0 at *
  generalize hlv : levelsN t n = lv at *
  have hsz : (s == 0) = false := beq_false_of_ne (by omega)
  obtain ⟨q0, rfl⟩ := Int.eq_ofNat_of_zero_le (show 0 ≤ k0 by omega)
  rw [Int.toNat_natCast] at HS
  go_enter Try.func35, Try.ntmps35
  go_wp2_with (first
    | (go_at_call 45; refine (HS.out _).mono ?_; rintro e w4 ⟨A4, c4, rfl, hB4⟩; have hk4 := hk3.trans (hB4.mono hk3.size))
    | (go_at_call 44; have _ := hk2; refine (H1.out _).mono ?_; rintro e w3 ⟨rfl, hB3⟩; have hk3 := hk2.trans (hB3.mono hk2.size))
    | (go_at_call 44; refine (H1.out _).mono ?_; rintro e w2 ⟨rfl, hB2⟩; have hk2 := hB2))
  have hr0 := World.ownsRow_lit (base := w.heap.size) (e := 3) (size := 1) w4 #[.int .i64 (q0 : Int)] 1 hk4.size (by simp [maxLen]) rfl
  have hB0 := hk4.alloc hk4.size (.cells #[.int .i64 (q0 : Int)] 3)
  go_loopw [5, 6] (fun a u wr => ∃ (xs : List Int) (k m : Nat), a = .int .i64 k ∧ xs.length = m ∧ xs ++ levelsUp k = lv ∧ 1 ≤ k ∧ m + k ≤ 32768 ∧ wr.ownsRow w.heap.size 3 1 u (m + 1) (flats encI (xs ++ [(k : Int)])) ∧ Below w.heap.size w wr) (fun a _ _ => (intOf a).toNat)
  case atStart => exact ⟨[], q0, 0, rfl, rfl, HL.out.symm, by omega, by omega, by simpa [flats, encI] using hr0, hB0⟩
  case round =>
    obtain ⟨xs, k, m, rfl, hm, hlv2, hk1, hk2', hrow, hB⟩ := hrel
    have hzw := hB.size
    obtain ⟨g, cap, rfl, hg1, hg2, hg3⟩ := own_form hrow (by omega)
    have HM := Lib.hid hm
    clear hm
    by_cases hlt : k > 1
    · rw [levelsUp_more (show (1 : Int) < k by omega)] at hlv2
      have HS2 := Lib.hid (fun w' => sizes_any w' k 18 (by omega) (by omega) (by omega) (by omega))
      have hp2 := overN_pos k 18
      have hl2 := overN_lt (show (1 : Int) < k by omega)
      have HLV := Lib.hid hlv2
      clear hlv2
      generalize overN k 18 = k' at *
      obtain ⟨q', rfl⟩ := Int.eq_ofNat_of_zero_le (show 0 ≤ k' by omega)
      rw [Int.toNat_natCast] at HS2
      go_wp2_with (first
        | (go_at_call 45; refine (HS2.out _).mono ?_; rintro e w6 ⟨A6, c6, rfl, hB6⟩; have hk6 := hk5.trans (hB6.mono hk5.size); have hrow6 := (hrow.kept (row := none) ⟨hk6.os, hk6.tape, hk6.output, hk6.size, fun b hb _ => hk6.block b hb⟩ (.inr (by simp [Value.ownBlock]))))
        | (go_at_call 44; refine (H2.out _).mono ?_; rintro e w5 ⟨rfl, hB5⟩; have hk5 := hB5)
        | (at_builtin; go_loud (refine wpList_append_one elInt rfl _ _ rfl w.heap.size (.slice (some ⟨g, 0, none⟩) (m + 1) cap) (m + 1) (xs ++ [(k : Int)]) (q' : Int) rfl hrow6 rfl (by omega) (by have := hk6.size; omega) ?_); intro A7 cap7 w7 hown hg))
      go_roundw
      case rel => exact ⟨xs ++ [(k : Int)], q', m + 1, rfl, by rw [List.length_append, HM.out]; rfl, by rw [List.append_assoc]; exact HLV.out, by omega, by omega, hown, (hB.trans (hk6.mono hzw)).grown hg (by have := hk6.size; omega) (fun i hi => (hrow6.lt i hi).1)⟩
      case measure => simp [intOf]; omega
    · rw [levelsUp_one (show ¬ (1 : Int) < k by omega)] at hlv2
      have HLV := Lib.hid hlv2
      clear hlv2
      go_wp2_with fail
      go_ret
      refine ⟨_, rfl, ?_, hB⟩
      rw [← HLV.out]
      exact IsSl.own (enc := encI) (d := (0 : Int)) encI_len hrow (by omega)
set_option maxHeartbeats 1600000 in
theorem rnodes_any (w : World) (t n : Int) (h : 1 ≤ t ∧ t ≤ 5) (h0 : 0 ≤ n) (h1 : n ≤ 32768) :
    Calls Try.prog 22 #[.int .i64 t, .int .i64 n] w fun e w' => e = .returned (.int .i64 (nodesN t n)) ∧ Below w.heap.size w w' := by
  have hlv := rlevels_any w t n h h0 h1
  have hb := maxN_bound t true
  have hop := overN_pos n (maxN t true)
  have hol := overN_le h0 (show 1 ≤ maxN t true by omega)
  obtain ⟨f1, f2, f3⟩ := levelsUp_facts _ (overN n (maxN t true)) (Nat.le_refl _) hop
  have hN : nodesN t n = sumL (levelsN t n) := rfl
  have hL : levelsN t n = levelsUp (overN n (maxN t true)) := rfl
  rw [← hL] at f1 f2 f3
  have HF1 := Lib.hid f1
  have HLV := Lib.hid hlv
  rw [hN]
  clear hlv f1 hN hL
  have hs : sumL (levelsN t n) ≤ 65538 := by omega
  have hln : (levelsN t n).length ≤ 32769 := by omega
  clear f2 f3 hop hol hb
  generalize levelsN t n = l at *
  generalize hll : l.length = m at *
  have HL := Lib.hid hll
  clear hll
  go_enter Try.func22, Try.ntmps22
  go_wp2_with (go_at_call 35; refine HLV.out.mono ?_; rintro e w2 ⟨v2, rfl, ⟨A2, c2, rfl, hc2, hr2⟩, hB2⟩; rw [HL.out] at hc2 ⊢)
  go_loop [6, 7] (fun a i => ∃ k : Nat, k ≤ m ∧ i = .int .i64 k ∧ a = .int .i64 (sumL (l.take k))) (fun _ i => m - (intOf i).toNat)
  case atStart => exact ⟨0, by omega, rfl, rfl⟩
  case round =>
    obtain ⟨k, hk, rfl, rfl⟩ := hrel
    obtain ⟨s0, s1⟩ := sumL_take_le HF1.out k (by rw [HL.out]; omega)
    by_cases hlt : k < m
    · obtain ⟨b, off, rfl, hb, hcl⟩ := ints_cells hr2 (by rw [HL.out]; omega)
      have q := hcl k (by rw [HL.out]; exact hlt)
      have HT := Lib.hid (sumL_take l k (by rw [HL.out]; exact hlt))
      have q2 := (sumL_take_le HF1.out (k + 1) (by rw [HL.out]; omega)).2
      have q3 := HF1.out _ (nth_mem 0 l k (by rw [HL.out]; exact hlt))
      rw [HT.out] at q2
      clear hcl
      generalize nth 0 l k = y at *
      generalize sumL (l.take k) = z at *
      go_wp2_with fail
      go_round
      case rel => exact ⟨k + 1, by omega, by go_num, by rw [HT.out]⟩
      case measure => simp [intOf]; omega
    · have hfin : Hid (l.take k = l) := List.take_of_length_le (by rw [HL.out]; omega)
      go_wp2_with fail
      go_ret
      exact ⟨by rw [hfin.out]; rfl, hB2⟩
end Go.Proofs.Ytooffkhdanimbaa
