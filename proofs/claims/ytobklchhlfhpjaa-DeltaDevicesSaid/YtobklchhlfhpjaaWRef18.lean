/- scantlingref18.in, Count, and scantlinglaw18.Few. Conditions: the numbers fit into Go's int, no slice is longer than the reach. -/
import Derived.Test.YtobklchhlfhpjaaWPool3
namespace Go.Proofs.Ytobklchhlfhpjaa
open Go.RowKit

theorem rin_any (w : World) (n lo hi : Int) : Calls Try.prog 30 #[.int .i64 n, .int .i64 lo, .int .i64 hi] w fun e w' => e = .returned (.bool (inB n lo hi)) ∧ w = w' := by
  by_cases h1 : lo ≤ n
  · by_cases h2 : n ≤ hi
    · rw [inB_yes ⟨h1, h2⟩]
      go_enter Try.func30, Try.ntmps30
      go_wp2
      go_ret
      exact ⟨rfl, rfl⟩
    · rw [inB_no (fun h => h2 h.2)]
      go_enter Try.func30, Try.ntmps30
      go_wp2
      go_ret
      exact ⟨rfl, rfl⟩
  · rw [inB_no (fun h => h1 h.1)]
    go_enter Try.func30, Try.ntmps30
    go_wp2
    go_ret
    exact ⟨rfl, rfl⟩

/-- The box that a pool by value is laid in at a function's head. -/
abbrev poolBox (p : Pool) (A : Option Addr) (n c : Nat) : Obj := .cells #[.int .i64 p.tx, .int .i64 p.time, .int .i64 p.unit, .int .i64 p.data, .slice A n c] 24

set_option maxHeartbeats 800000 in
theorem rcount_any (w : World) (S : Nat → Prop) (v : Value) (p : Pool) (hS : ∀ b, S b → b < w.heap.size) (h : IsPool w S v p) (hn : p.devs.length ≤ 1099511627776) (hc0 : p.count ≤ 4611686018427387904) :
    Calls Try.prog 31 #[v] w fun e w' => e = .returned (.int .i64 p.count) ∧ Below w.heap.size w w' := by
  obtain ⟨A, c, rfl, _, hr⟩ := h
  generalize hl0 : p.devs.length = n at *
  have hl := Lib.hid hl0
  clear hl0
  have hB0 : Below w.heap.size w (w.alloc (poolBox p A n c)) := (Below.refl _ _).alloc (Nat.le_refl _) _
  go_enter Try.func31, Try.ntmps31
  go_wp2_with fail
  go_loop [3, 4] (fun t i => ∃ k : Nat, k ≤ n ∧ i = .int .i64 k ∧ t = .int .i64 (countL (p.devs.take k))) (fun _ i => n - (intOf i).toNat)
  case atStart => exact ⟨0, by omega, rfl, rfl⟩
  case round =>
    obtain ⟨k, hk, rfl, rfl⟩ := hrel
    have hs0 := countL_nonneg (p.devs.take k)
    by_cases hlt : k < n
    · obtain ⟨b, off, rfl, hb, hc⟩ := devs_cells (hr.keep rdev_stable (fun _ h => h) (keep_below hB0 hS)) (by rw [hl.out]; omega)
      obtain ⟨c0, c1, c2, c3, A', c', c4, hc', hr'⟩ := hc k (by rw [hl.out]; omega)
      have HT := Lib.hid (countL_take p.devs k (by rw [hl.out]; omega))
      have hle := countL_take_le p.devs (k + 1)
      rw [HT.out] at hle
      have hbs := hS b hb
      have hs1 : countL (p.devs.take k) + ((nth dev0 p.devs k).maps.length : Int) ≤ 4611686018427387904 := Int.le_trans hle hc0
      clear hc hr' hle
      go_wp2
      go_round
      case rel => exact ⟨k + 1, by omega, by go_num, by rw [HT.out]⟩
      case measure => simp [intOf]; omega
    · have hfin : Hid (p.devs.take k = p.devs) := List.take_of_length_le (by rw [hl.out]; omega)
      go_wp2
      go_ret
      exact ⟨ret_int (by rw [hfin.out]; rfl), hB0⟩

/-- Is a pool small enough for the laws' own looks? -/
def fewB (p : Pool) : Bool := decide (p.devs.length ≤ 200 ∧ p.count ≤ 2000)
def fewN (p : Pool) : Int := if fewB p = true then 1 else 0

theorem fewN_yes {p : Pool} (h1 : p.devs.length ≤ 200) (h2 : p.count ≤ 2000) : fewN p = 1 := by unfold fewN; rw [if_pos]; simp only [fewB, decide_eq_true_eq]; exact ⟨h1, h2⟩
theorem fewN_no {p : Pool} (h : ¬ (p.devs.length ≤ 200 ∧ p.count ≤ 2000)) : fewN p = 0 := by unfold fewN; rw [if_neg]; simp only [fewB, decide_eq_true_eq]; exact h

theorem countL_take_bound {p : Pool} (h : p.ok) (k : Nat) (hk : k ≤ 201) : countL (p.devs.take k) ≤ 1178676464975805 := by
  have h1 := countL_bound (c := 5864062014805) (p.devs.take k) (fun d hd => (h.2.2.2.2.1 d (List.mem_of_mem_take hd)).2.2.2.2.2)
  have h2 : (p.devs.take k).length * 5864062014805 ≤ 201 * 5864062014805 := Nat.mul_le_mul_right _ (by rw [List.length_take]; omega)
  omega

set_option maxRecDepth 100000 in
set_option maxHeartbeats 800000 in
theorem few_any (w : World) (S : Nat → Prop) (v : Value) (p : Pool) (hS : ∀ b, S b → b < w.heap.size) (h : IsPool w S v p) (hok : p.ok) :
    Calls Try.prog 4 #[v] w fun e w' => e = .returned (.int .i64 (fewN p)) ∧ Below w.heap.size w w' := by
  obtain ⟨A, c, rfl, _, hr⟩ := h
  have hnl := hok.2.2.2.2.2
  generalize hl0 : p.devs.length = n at *
  have hl := Lib.hid hl0
  clear hl0
  have hB0 : Below w.heap.size w (w.alloc (poolBox p A n c)) := (Below.refl _ _).alloc (Nat.le_refl _) _
  go_enter Try.func4, Try.ntmps4
  go_wp2_with fail
  go_loop [3, 4] (fun t i => ∃ k : Nat, k ≤ n ∧ k ≤ 201 ∧ i = .int .i64 k ∧ t = .int .i64 (countL (p.devs.take k))) (fun _ i => n - (intOf i).toNat)
  case atStart => exact ⟨0, by omega, by omega, rfl, rfl⟩
  case round =>
    obtain ⟨k, hk, hk2, rfl, rfl⟩ := hrel
    have hs0 := countL_nonneg (p.devs.take k)
    by_cases hlt : k < n ∧ k < 201
    · obtain ⟨b, off, rfl, hb, hc⟩ := devs_cells (hr.keep rdev_stable (fun _ h => h) (keep_below hB0 hS)) (by rw [hl.out]; omega)
      obtain ⟨c0, c1, c2, c3, A', c', c4, hc', hr'⟩ := hc k (by rw [hl.out]; omega)
      have HT := Lib.hid (countL_take p.devs k (by rw [hl.out]; omega))
      have hle := countL_take_bound hok (k + 1) (by omega)
      rw [HT.out] at hle
      have hbs := hS b hb
      have hlt1 := hlt.1
      have hlt2 := hlt.2
      clear hc hr' hlt
      go_wp2
      go_round
      case rel => exact ⟨k + 1, by omega, by omega, by go_num, by rw [HT.out]⟩
      case measure => simp [intOf]; omega
    · have hle := countL_take_bound hok k hk2
      by_cases hlt1 : k < n
      · have hk3 : ¬ k < 201 := by omega
        have e := Lib.hid (fewN_no (p := p) (by rw [hl.out]; omega))
        have hn2 : ¬ n ≤ 200 := by omega
        clear hlt
        go_wp2
        go_ret
        exact ⟨ret_int e.out.symm, hB0⟩
      · have hfin : p.devs.take k = p.devs := List.take_of_length_le (by rw [hl.out]; omega)
        have hcp : p.count = countL (p.devs.take k) := by rw [hfin]; rfl
        have hkn : n ≤ k := by omega
        by_cases hn2 : n ≤ 200
        · by_cases hcc : countL (p.devs.take k) ≤ 2000
          · have e := Lib.hid (fewN_yes (p := p) (by rw [hl.out]; exact hn2) (by rw [hcp]; exact hcc))
            clear hfin hcp hlt
            go_wp2
            go_ret
            exact ⟨ret_int e.out.symm, hB0⟩
          · have e := Lib.hid (fewN_no (p := p) (by rw [hcp]; exact fun h => hcc h.2))
            clear hfin hcp hlt
            go_wp2
            go_ret
            exact ⟨ret_int e.out.symm, hB0⟩
        · have e := Lib.hid (fewN_no (p := p) (by rw [hl.out]; exact fun h => hn2 h.1))
          clear hfin hcp hlt
          go_wp2
          go_ret
          exact ⟨ret_int e.out.symm, hB0⟩
end Go.Proofs.Ytobklchhlfhpjaa
