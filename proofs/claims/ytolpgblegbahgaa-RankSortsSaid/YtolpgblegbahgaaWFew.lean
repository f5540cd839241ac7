/- scantlinglaw18.Few: whether a pool is small enough. Condition: the numbers fit into Go's int. -/
import Derived.Test.YtolpgblegbahgaaPBox
import Derived.Test.YtolpgblegbahgaaFew
import Derived.Deep.QuietTactic
import Derived.BigQuiet
import Derived.Outline
namespace Go.Proofs.Ytolpgblegbahgaa
open Go.RowKit
set_option maxRecDepth 100000 in
set_option maxHeartbeats 800000 in
theorem few_any (w : World) (S : Nat → Prop) (v : Value) (p : Pool) (hS : ∀ b, S b → b < w.heap.size) (h : IsPool w S v p) (hok : p.ok) :
    Calls Try.prog 13 #[v] w fun e w' => e = .returned (.int .i64 (fewN p)) ∧ Below w.heap.size w w' := by
  obtain ⟨A, c, rfl, _, hr⟩ := h
  have hnl := hok.2.2.2.2.2
  generalize hl0 : p.devs.length = n at *
  have hl := Lib.hid hl0
  clear hl0
  have hB0 : Below w.heap.size w (w.alloc (poolBox p A n c)) := (Below.refl _ _).alloc (Nat.le_refl _) _
  go_enter Try.func13, Try.ntmps13
  go_wp2_with fail
  go_loop [3, 4] (fun t i => ∃ k : Nat, k ≤ n ∧ k ≤ 201 ∧ i = .int .i64 k ∧ t = .int .i64 (countL (p.devs.take k))) (fun _ i => n - (intOf i).toNat)
  case atStart => exact ⟨0, by omega, by omega, rfl, rfl⟩
  case round =>
    obtain ⟨k, hk, hk2, rfl, rfl⟩ := hrel
    have hs0 := countL_nonneg (p.devs.take k)
    by_cases hlt : k < n ∧ k < 201
    · obtain ⟨b, off, rfl, hb, hc⟩ := devs_cells (hr.keep rdev_stable (fun _ h => h) (keep_below hB0 hS)) (by rw [hl.out]; omega)
      obtain ⟨c0, c1, c2, c3, A', c', c4, hc', hr'⟩ := hc k (by rw [hl.out]; omega)
      have HT := Lib.hid (countL_take p.devs k (by rw [hl.out]; omega))
      have hle := countL_take_bound hok (k + 1) (by omega)
      rw [HT.out] at hle
      have hbs := hS b hb
      have hlt1 := hlt.1
      have hlt2 := hlt.2
      clear hc hr' hlt
      go_wp2
      go_round
      case rel => exact ⟨k + 1, by omega, by omega, by go_num, by rw [HT.out]⟩
      case measure => simp [intOf]; omega
    · have hle := countL_take_bound hok k hk2
      by_cases hlt1 : k < n
      · have hk3 : ¬ k < 201 := by omega
        have e := Lib.hid (fewN_no (p := p) (by rw [hl.out]; omega))
        have hn2 : ¬ n ≤ 200 := by omega
        clear hlt
        go_wp2
        go_ret
        exact ⟨ret_int e.out.symm, hB0⟩
      · have hfin : p.devs.take k = p.devs := List.take_of_length_le (by rw [hl.out]; omega)
        have hcp : p.count = countL (p.devs.take k) := by rw [hfin]; rfl
        have hkn : n ≤ k := by omega
        by_cases hn2 : n ≤ 200
        · by_cases hcc : countL (p.devs.take k) ≤ 2000
          · have e := Lib.hid (fewN_yes (p := p) (by rw [hl.out]; exact hn2) (by rw [hcp]; exact hcc))
            clear hfin hcp hlt
            go_wp2
            go_ret
            exact ⟨ret_int e.out.symm, hB0⟩
          · have e := Lib.hid (fewN_no (p := p) (by rw [hcp]; exact fun h => hcc h.2))
            clear hfin hcp hlt
            go_wp2
            go_ret
            exact ⟨ret_int e.out.symm, hB0⟩
        · have e := Lib.hid (fewN_no (p := p) (by rw [hl.out]; exact fun h => hn2 h.1))
          clear hfin hcp hlt
          go_wp2
          go_ret
          exact ⟨ret_int e.out.symm, hB0⟩
end Go.Proofs.Ytolpgblegbahgaa
