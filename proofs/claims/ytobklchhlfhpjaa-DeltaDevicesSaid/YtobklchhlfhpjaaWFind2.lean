/- pool.Find, scantlingref18.Find: the first device of an id. Condition: no slice is longer than the reach. -/
import Derived.Test.YtobklchhlfhpjaaWFind
namespace Go.Proofs.Ytobklchhlfhpjaa
open Go.RowKit
theorem isDev0 (w : World) (S : Nat → Prop) : IsDev w S (.agg #[.int .i64 0, .int .i64 0, .int .i64 0, .int .i64 0, .slice none 0 0]) dev0 := ⟨none, 0, rfl, Nat.le_refl _, RowOf.nil_⟩

set_option maxRecDepth 100000 in
set_option maxHeartbeats 3200000 in
theorem rfind_any (w : World) (S : Nat → Prop) (v : Value) (p : Pool) (id : Int) (hS : ∀ b, S b → b < w.heap.size) (h : IsPool w S v p) (hnd : p.devs.length ≤ 1099511627776) :
    Calls Try.prog 15 #[v, .int .i64 id] w fun e w' => ∃ v', e = .returned (.tuple #[v', .bool (findB p.devs id)]) ∧ IsDev w' S v' (findD p.devs id) ∧ Below w.heap.size w w' := by
  obtain ⟨A, c, rfl, hc, hr⟩ := h
  have hB0 : Below w.heap.size w ((w.alloc (poolBox p A p.devs.length c)).alloc (.cells #[.int .i64 0, .int .i64 0, .int .i64 0, .int .i64 0, .slice none 0 0] 40)) := ((Below.refl _ _).alloc (Nat.le_refl _) _).alloc (by simp) _
  have hp1 : PBox ((w.alloc (poolBox p A p.devs.length c)).alloc (.cells #[.int .i64 0, .int .i64 0, .int .i64 0, .int .i64 0, .slice none 0 0] 40)) w.heap.size p A p.devs.length c := (PBox.new w p A p.devs.length c).below (Below.alloc (Below.refl _ _) (Nat.le_refl _) _) (by simp)
  dsimp only [poolBox] at hB0 hp1
  obtain ⟨x0, x1, x2, x3, x4⟩ := hp1.cells
  generalize hl0 : p.devs.length = n at *
  have hl := Lib.hid hl0
  clear hl0
  go_enter Try.func15, Try.ntmps15
  go_wp2_with fail
  go_loop [6] (fun i => ∃ k : Nat, k ≤ n ∧ i = .int .i64 k ∧ (∀ j, j < k → (nth dev0 p.devs j).id ≠ id)) (fun i => n - (intOf i).toNat)
  case atStart => exact ⟨0, by omega, rfl, fun j hj => absurd hj (by omega)⟩
  case round =>
    obtain ⟨k, hk, rfl, hA⟩ := hrel
    have HA := Lib.hid hA
    clear hA
    by_cases hlt : k < n
    · obtain ⟨b, off, rfl, hb, hc⟩ := devs_cells hr (by rw [hl.out]; omega)
      obtain ⟨c0, c1, c2, c3, A', c', c4, hc', hr'⟩ := hc k (by rw [hl.out]; omega)
      have hbs := hS b hb
      by_cases hid : (nth dev0 p.devs k).id = id
      · obtain ⟨e1, e2⟩ := found_yes (by rw [hl.out]; exact hlt) hid HA.out
        have HE1 := Lib.hid e1
        have HE2 := Lib.hid e2
        have hbb : ((nth dev0 p.devs k).id == id) = true := by simp [hid]
        have HRR := Lib.hid hr'
        clear e1 e2 hid hc HA hr'
        generalize nth dev0 p.devs k = d at *
        go_wp2_with fail
        refine bodyPost_ret (v := .tuple #[.agg #[.int .i64 d.id, .int .i64 d.tx, .int .i64 d.made, .int .i64 d.snapped, .slice A' d.maps.length c'], .bool true]) (by simp [results, Try.results15, go_sem]) rfl ?_
        have hBd : Below w.heap.size w ((w.alloc (poolBox p (some ⟨b, off, none⟩) n c)).alloc (devBox d A' c')) := ((Below.refl _ _).alloc (Nat.le_refl _) _).alloc (by simp) _
        exact ⟨_, by rw [HE2.out], by rw [HE1.out]; exact ⟨A', c', rfl, hc', HRR.out.keep rmp_stable (fun _ h => h) (keep_below hBd hS)⟩, hBd⟩
      · have hA2 : ∀ j, j < k + 1 → (nth dev0 p.devs j).id ≠ id := fun j hj => by
          by_cases e : j = k
          · rw [e]; exact hid
          · exact HA.out j (by omega)
        have HA2 := Lib.hid hA2
        have hbb : ((nth dev0 p.devs k).id == id) = false := by simp [hid]
        clear hid HA hA2 hc hr'
        generalize nth dev0 p.devs k = d at *
        go_wp2_with fail
        go_round
        case rel => exact ⟨k + 1, by omega, by go_num, HA2.out⟩
        case measure => simp [intOf]; omega
    · obtain ⟨e1, e2⟩ := found_no (l := p.devs) (id := id) (fun j hj => HA.out j (by rw [hl.out] at hj; omega))
      have HE1 := Lib.hid e1
      have HE2 := Lib.hid e2
      clear e1 e2 HA
      go_wp2_with fail
      refine bodyPost_ret (v := .tuple #[.agg #[.int .i64 0, .int .i64 0, .int .i64 0, .int .i64 0, .slice none 0 0], .bool false]) (by simp [results, Try.results15, go_sem]) rfl ?_
      exact ⟨_, by rw [HE2.out], by rw [HE1.out]; exact isDev0 _ _, hB0⟩
end Go.Proofs.Ytobklchhlfhpjaa
