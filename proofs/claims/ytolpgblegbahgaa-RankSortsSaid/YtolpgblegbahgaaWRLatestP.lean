/- scantlingref18.Latest: the greatest time of any mapping. Condition: no slice is longer than the reach. -/
import Derived.Test.YtolpgblegbahgaaWLatest
import Derived.Test.YtolpgblegbahgaaWRCountP
namespace Go.Proofs.Ytolpgblegbahgaa
open Go.RowKit Go.Shelf
attribute [local go_sem] Oper.semAt_some
set_option maxRecDepth 100000 in
set_option maxHeartbeats 3200000 in
theorem rlatest_any (w : World) (S : Nat → Prop) (v : Value) (p : Pool) (hS : ∀ b, S b → b < w.heap.size) (h : IsPool w S v p) (hok : p.ok) (hnd : p.devs.length ≤ 1099511627776) :
    Calls Try.prog 30 #[v] w fun e w' => e = .returned (.int .i64 p.latest) ∧ Below w.heap.size w w' := by
  obtain ⟨A, c, rfl, hc, hr⟩ := h
  have hB0 : Below w.heap.size w (w.alloc (poolBox p A p.devs.length c)) := (Below.refl _ _).alloc (Nat.le_refl _) _
  have hmk : ∀ k, k < p.devs.length → (nth dev0 p.devs k).maps.length ≤ 140737488355328 := fun k hk => by have := (hok.dev hk).2.2.2.2.2; omega
  have hr0 := hr.keep rdev_stable (fun _ h => h) (keep_below hB0 hS)
  dsimp only [poolBox] at hB0 hr0
  clear hr
  generalize hl0 : p.devs.length = nd at *
  have hl := Lib.hid hl0
  have HMK := Lib.hid hmk
  clear hl0 hmk
  go_enter Try.func30, Try.ntmps30
  go_wp2_with fail
  go_loop [3, 4] (fun t i => ∃ k : Nat, k ≤ nd ∧ i = .int .i64 k ∧ t = .int .i64 (maxT (upto p.devs k 0))) (fun _ i => nd - (intOf i).toNat)
  case atStart => exact ⟨0, by omega, rfl, by rw [upto_zero]; rfl⟩
  case round =>
    obtain ⟨k, hk, rfl, rfl⟩ := hrel
    by_cases hlt : k < nd
    · obtain ⟨b, off, rfl, hb, hcl⟩ := devs_cells hr0 (by rw [hl.out]; omega)
      obtain ⟨c0, c1, c2, c3, A', c', c4, hc', hr'⟩ := hcl k (by rw [hl.out]; omega)
      have hkl : k < p.devs.length := by rw [hl.out]; omega
      have hbs : b < w.heap.size := hS b hb
      have hml := HMK.out k hlt
      have HNX := Lib.hid (congrArg maxT (upto_next hkl))
      have HUP := Lib.hid (fun j hj => maxT_upto (l := p.devs) (k := k) (j := j) hj)
      clear hcl
      go_wp2_with fail
      go_loop [3, 5] (fun t i => ∃ j : Nat, j ≤ (nth dev0 p.devs k).maps.length ∧ i = .int .i64 j ∧ t = .int .i64 (maxT (upto p.devs k j))) (fun _ i => (nth dev0 p.devs k).maps.length - (intOf i).toNat)
      case atStart => exact ⟨0, by omega, rfl, rfl⟩
      case round =>
        obtain ⟨j, hj, rfl, rfl⟩ := hrel
        by_cases hjl : j < (nth dev0 p.devs k).maps.length
        · obtain ⟨mb, mo, rfl, hmb, hmc⟩ := maps_cells hr' (by omega)
          obtain ⟨m0, m1, m2⟩ := hmc j hjl
          have HU := Lib.hid (HUP.out j hjl)
          have hmbs : mb < w.heap.size := hS mb hmb
          clear hmc
          generalize nth mp0 (nth dev0 p.devs k).maps j = m at *
          generalize hmt : maxT (upto p.devs k j) = mt at *
          have HMT := Lib.hid hmt
          clear hmt
          by_cases hgt : mt < m.t
          · go_wp2_with fail
            go_round
            case rel => exact ⟨j + 1, by omega, by go_num, by rw [HU.out, show max mt m.t = m.t from by omega]⟩
            case measure => simp [intOf]; omega
          · go_wp2_with fail
            go_round
            case rel => exact ⟨j + 1, by omega, by go_num, by rw [HU.out, show max mt m.t = mt from by omega]⟩
            case measure => simp [intOf]; omega
        · have hje : Hid (maxT (upto p.devs k j) = maxT (upto p.devs (k + 1) 0)) := by rw [show j = (nth dev0 p.devs k).maps.length from by omega]; exact HNX.out
          rw [hje.out]
          go_wp2_with fail
          go_round
          case rel => exact ⟨k + 1, by omega, by go_num, rfl⟩
          case measure => simp [intOf]; omega
    · have hfin : Hid (maxT (upto p.devs k 0) = p.latest) := by rw [upto_zero, List.take_of_length_le (by rw [hl.out]; omega)]; rfl
      rw [hfin.out]
      go_wp2_with fail
      go_ret
      exact ⟨rfl, hB0⟩
end Go.Proofs.Ytolpgblegbahgaa
