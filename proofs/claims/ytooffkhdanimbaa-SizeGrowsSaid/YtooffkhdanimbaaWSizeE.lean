/- scantlinglaw20.SizeGrows says yes of every pool. Condition: the numbers fit into Go's int, and no slice is longer than the reach. -/
import Derived.Test.YtooffkhdanimbaaWSizeC
import Derived.Test.YtooffkhdanimbaaOwnPlus
import Derived.Deep.AppendLies
import Derived.Deep.RegionLaw
import Derived.Deep.DeepCutAuto
import Derived.Test.YtooffkhdanimbaaRegT
namespace Go.Proofs.Ytooffkhdanimbaa
open Go.RowKit
attribute [local go_sem] Oper.semAt_some

set_option maxRecDepth 100000 in
set_option maxHeartbeats 6400000 in
theorem sizeGrows_walk (w : World) (v : Value) (p : Pool) (i b : Int) (h : IsPool w (Lt w.heap.size) v p) (hok : p.ok) (_hi : In64 i) (_hb : In64 b) :
    Calls Try.prog 5 #[v, .int .i64 i, .int .i64 b] w fun e w' => e = .returned (.bool true) ∧ Below w.heap.size w w' := by
  have hS : ∀ b, Lt w.heap.size b → b < w.heap.size := fun b hb => hb
  have h0 := h
  obtain ⟨A, c, rfl, hc, hr⟩ := h
  obtain ⟨w1, hw1⟩ : ∃ w1, w1 = w.alloc (poolBox p A p.devs.length c) := ⟨_, rfl⟩
  have hB1 : Below w.heap.size w w1 := by rw [hw1]; exact (Below.refl _ _).alloc (Nat.le_refl _) _
  have hpb : PBox w1 w.heap.size p A p.devs.length c := by rw [hw1]; exact PBox.new w p A _ c
  have hk0 : Below w1.heap.size w1 (w.alloc (poolBox p A p.devs.length c)) := by rw [← hw1]; exact Below.refl _ _
  have hup : ∀ w', Below w.heap.size w w' → ∀ b, Lt w.heap.size b → b < w'.heap.size := fun w' hB b hb => Nat.lt_of_lt_of_le (hS b hb) hB.size
  have hs1 : w1.heap.size = w.heap.size + 1 := by rw [hw1]; simp
  have HFW := Lib.hid (fun w' (hB : Below w.heap.size w w') => few_any w' (Lt w.heap.size) _ p (hup w' hB) (h0.below hB hS) hok)
  have HCK := Lib.hid (fun w' (hB : Below w.heap.size w w') => check_any w' (Lt w.heap.size) _ p (hup w' hB) (h0.below hB hS) hok)
  have HCP := Lib.hid (fun w' (hB : Below w.heap.size w w') => copy_own w' (Lt w.heap.size) _ p (hup w' hB) (h0.below hB hS))
  have HBA := Lib.hid (fun w' (hB : Below w.heap.size w w') => base_any w' (Lt w.heap.size) _ p (hup w' hB) (h0.below hB hS) hok)
  have HND := Lib.hid (fun w' (hB : Below w.heap.size w w') => need_any w' (Lt w.heap.size) _ p (hup w' hB) (h0.below hB hS) hok)
  have HS1 := Lib.hid hs1
  have HP := Lib.hid (fun w' (hB : Below w1.heap.size w1 w') => (hpb.below hB (by omega)).cells)
  have HUP := Lib.hid (fun w' (hB : Below w1.heap.size w1 w') => hB1.trans (hB.mono (by omega)))
  clear hs1
  clear h0 hr hw1 hpb hup
  dsimp only [poolBox] at hk0
  by_cases hf : fewB p = true
  · have hf1 : fewN p = 1 := by unfold fewN; rw [if_pos hf]
    rw [hf1] at HFW
    simp only [fewB, decide_eq_true_eq] at hf
    obtain ⟨hpn, hpc⟩ := hf
    clear hf1
    by_cases hz : poolChk p = 0
    · rw [hz] at HCK
      by_cases hn0 : p.devs.length = 0
      · have hn1 : ((p.devs.length : Int) == 0) = true := by simp [hn0]
        clear hn0 hz
        go_enter Try.func5, Try.ntmps5
        go_wp2_with (first
          | (go_at_call 6; refine (HFW.out _ (HUP.out _ hk0)).mono ?_; rintro e w2 ⟨rfl, hB2⟩; have hk2 := hk0.trans (hB2.mono hk0.size); obtain ⟨x0, x1, x2, x3, x4⟩ := HP.out _ hk2)
          | (go_at_call 16; refine (HCK.out _ (HUP.out _ hk2)).mono ?_; rintro e w3 ⟨rfl, hB3⟩; have hk3 := hk2.trans (hB3.mono hk2.size); clear x0 x1 x2 x3 x4; obtain ⟨x0, x1, x2, x3, x4⟩ := HP.out _ hk3)
          | (go_at_call 7; refine (lives20 _).mono ?_; rintro e wl ⟨rfl, hBl⟩; have hkl := hk3.trans (hBl.mono hk3.size)))
        go_ret
        exact ⟨rfl, HUP.out _ hkl⟩
      · have hn1 : ((p.devs.length : Int) == 0) = false := by simp [hn0]
        by_cases hd0 : p.data = 0
        · have hd1 : (p.data == 0) = true := by simp [hd0]
          clear hn0 hd0 hz
          go_enter Try.func5, Try.ntmps5
          go_wp2_with (first
            | (go_at_call 6; refine (HFW.out _ (HUP.out _ hk0)).mono ?_; rintro e w2 ⟨rfl, hB2⟩; have hk2 := hk0.trans (hB2.mono hk0.size); obtain ⟨x0, x1, x2, x3, x4⟩ := HP.out _ hk2)
            | (go_at_call 16; refine (HCK.out _ (HUP.out _ hk2)).mono ?_; rintro e w3 ⟨rfl, hB3⟩; have hk3 := hk2.trans (hB3.mono hk2.size); clear x0 x1 x2 x3 x4; obtain ⟨x0, x1, x2, x3, x4⟩ := HP.out _ hk3)
            | (go_at_call 7; refine (lives20 _).mono ?_; rintro e wl ⟨rfl, hBl⟩; have hkl := hk3.trans (hBl.mono hk3.size)))
          go_ret
          exact ⟨rfl, HUP.out _ hkl⟩
        · have hd1 : (p.data == 0) = false := by simp [hd0]
          obtain ⟨f1, f2, f3, f4, f5, f6⟩ := pool_few hz
          have HF4 := Lib.hid f4
          have HCP' := Lib.hid (fun w' hB => HCP.out w' hB (by omega) (fun k hk => by have := f4 k hk; omega))
          have HZ := Lib.hid hz
          clear HCP f4 hz
          go_enter Try.func5, Try.ntmps5
          go_wp2_with (first
            | (go_at_call 6; refine (HFW.out _ (HUP.out _ hk0)).mono ?_; rintro e w2 ⟨rfl, hB2⟩; have hk2 := hk0.trans (hB2.mono hk0.size); obtain ⟨x0, x1, x2, x3, x4⟩ := HP.out _ hk2)
            | (go_at_call 16; refine (HCK.out _ (HUP.out _ hk2)).mono ?_; rintro e w3 ⟨rfl, hB3⟩; have hk3 := hk2.trans (hB3.mono hk2.size); clear x0 x1 x2 x3 x4; obtain ⟨x0, x1, x2, x3, x4⟩ := HP.out _ hk3)
            | (go_at_call 17; refine (HCP'.out _ (HUP.out _ hk3)).mono ?_; rintro e w4 ⟨A4, c4, M, rfl, hOD, hB4⟩; have hk4 := hk3.trans (hB4.mono hk3.size); clear x0 x1 x2 x3 x4; obtain ⟨x0, x1, x2, x3, x4⟩ := HP.out _ hk4; have hlt4 : w.heap.size < w4.heap.size := (by have := hk4.size; have := HS1.out; omega); obtain ⟨g, cg, hv, hg1, hg2, hg3, hgc⟩ := hOD.cells (by omega); simp only [Value.slice.injEq, true_and] at hv; obtain ⟨rfl, rfl⟩ := hv))
          have HOD4 := Lib.hid (by obtain ⟨_, _, hc, _⟩ := hOD; exact fun j hj => (hc j hj).2.1 : ∀ j, j < p.devs.length → OwnMaps w4 w3.heap.size (M j) (nth dev0 p.devs j).maps)
          have hb5 : PBox (w4.alloc (.cells #[.int .i64 p.tx, .int .i64 p.time, .int .i64 p.unit, .int .i64 p.data, .slice (some ⟨g, 0, none⟩) p.devs.length c4] 24)) w4.heap.size p (some ⟨g, 0, none⟩) p.devs.length c4 := PBox.new w4 p _ _ c4
          have hk5 := hk4.alloc hk4.size (.cells #[.int .i64 p.tx, .int .i64 p.time, .int .i64 p.unit, .int .i64 p.data, .slice (some ⟨g, 0, none⟩) p.devs.length c4] 24)
          have hod5 := hOD.keep ((Below.refl w4.heap.size w4).alloc (Nat.le_refl _) (.cells #[.int .i64 p.tx, .int .i64 p.time, .int .i64 p.unit, .int .i64 p.data, .slice (some ⟨g, 0, none⟩) p.devs.length c4] 24)) (Nat.le_refl _)
          have hs5 : (w4.alloc (.cells #[.int .i64 p.tx, .int .i64 p.time, .int .i64 p.unit, .int .i64 p.data, .slice (some ⟨g, 0, none⟩) p.devs.length c4] 24)).heap.size = w4.heap.size + 1 := by simp
          generalize w4.alloc (.cells #[.int .i64 p.tx, .int .i64 p.time, .int .i64 p.unit, .int .i64 p.data, .slice (some ⟨g, 0, none⟩) p.devs.length c4] 24) = w5 at *
          have HS5 := Lib.hid hs5
          have hlt5 : w4.heap.size < w5.heap.size := by omega
          clear x0 x1 x2 x3 x4 hOD hgc hs5
          obtain ⟨x0, x1, x2, x3, x4⟩ := HP.out _ hk5
          obtain ⟨y0, y1, y2, y3, y4⟩ := hb5.cells
          have hm := Int.tmod_lt_of_pos i (show (0 : Int) < p.devs.length by omega)
          have hm' := Int.lt_tmod_of_pos i (show (0 : Int) < p.devs.length by omega)
          have hm2 := Int.tmod_lt_of_pos (i.tmod p.devs.length + p.devs.length) (show (0 : Int) < p.devs.length by omega)
          have hm3 := Int.tmod_nonneg (a := i.tmod p.devs.length + p.devs.length) (p.devs.length : Int) (by omega)
          have hm4 := Int.emod_nonneg (i.tmod p.devs.length + p.devs.length) (show (p.devs.length : Int) ≠ 0 by omega)
          have hm5 := Int.emod_lt_of_pos (i.tmod p.devs.length + p.devs.length) (show (0 : Int) < p.devs.length by omega)
          have hm6 := Int.emod_nonneg (i.tmod p.devs.length) (show (p.devs.length : Int) ≠ 0 by omega)
          have hm7 := Int.emod_lt_of_pos (i.tmod p.devs.length) (show (0 : Int) < p.devs.length by omega)
          go_region
          clear hm4 hm5
          generalize hri : i.tmod ↑p.devs.length % ↑p.devs.length = ri at *
          have hri0 : 0 ≤ ri := by rw [← hri]; exact Int.emod_nonneg _ (by omega)
          have hri1 : ri < p.devs.length := by rw [← hri]; exact Int.emod_lt_of_pos _ (by omega)
          clear hri hm hm' hm2 hm3 hm6 hm7
          obtain ⟨r, rfl⟩ := Int.eq_ofNat_of_zero_le hri0
          have hr : r < p.devs.length := by omega
          have hk6 := hk5.drew
          have hb6 : PBox w5.drew w4.heap.size p (some ⟨g, 0, none⟩) p.devs.length c4 := hb5
          have hod6 : OwnDevs w5.drew w3.heap.size (.slice (some ⟨g, 0, none⟩) p.devs.length c4) p.devs M := hod5
          have hs6 : w5.drew.heap.size = w4.heap.size + 1 := HS5.out
          clear hk5 hb5 hod5 HS5 hlt5
          clear x0 x1 x2 x3 x4 y0 y1 y2 y3 y4
          generalize w5.drew = w6 at *
          obtain ⟨x0, x1, x2, x3, x4⟩ := HP.out _ hk6
          obtain ⟨y0, y1, y2, y3, y4⟩ := hb6.cells
          have hlt6 : w4.heap.size < w6.heap.size := by omega
          have hlt0 : w.heap.size < w6.heap.size := by omega
          have hsz3 : w.heap.size < w3.heap.size := by have := hk3.size; have := HS1.out; omega
          have hsz34 := hB4.size
          have HS6 := Lib.hid hs6
          clear hs6
          obtain ⟨xs5, hrow5, hc5, hap5⟩ := hod6
          obtain ⟨hdc, hmr, hmb⟩ := hc5 r hr
          have e4 : w6.cell? ⟨g, r * 5 + 4, none⟩ = some (M r) := by rw [hrow5.cellAt (r * 5 + 4) (by omega)]; exact hdc.2.2.2.2
          have hfz : w6.frozen? ⟨g, r * 5 + 4, none⟩ = false := hrow5.frozenAt _
          have hgl : g < w6.heap.size := (hrow5.lt g rfl).2
          have HOD := Lib.hid (show OwnDevs w6 w3.heap.size (.slice (some ⟨g, 0, none⟩) p.devs.length c4) p.devs M from ⟨xs5, hrow5, hc5, hap5⟩)
          have hgn : (M r).ownBlock ≠ some g := fun e => hmb g e rfl
          have hwn : (M r).ownBlock ≠ some w.heap.size := fun e => by have := (hmr.lt _ e).1; omega
          have hqn : (M r).ownBlock ≠ some w4.heap.size := fun e => by
            have h1 := ((HOD4.out r hr).lt _ e).2
            omega
          clear hrow5 hc5 hap5 hmb hdc xs5
          obtain ⟨Am, cm, hMr, hcm⟩ := hmr.form
          have HMR := Lib.hid hmr
          rw [hMr] at e4 hmr hgn hwn hqn
          have HMV := Lib.hid hMr
          clear hMr
          have hmlen := HF4.out r hr
          have HDV := Lib.hid (fun m => plus_ok (m := m) HZ.out hr hpc)
          have hlvb := lastV_bound HZ.out hr
          generalize hvv : lastV (nth dev0 p.devs r).maps (nth dev0 p.devs r).maps.length = lv at *
          have HVV := Lib.hid hvv
          clear hvv
          clear HDV
          go_upto_if 62 with fail
          go_cut [9] (fun s9 wx => s9 = .int .i64 (lv + 1) ∧ wx = w6)
          case first =>
            by_cases hm0 : (nth dev0 p.devs r).maps.length = 0
            · have hv1 : lv + 1 = 0 := by have h1 := HVV.out; rw [hm0, lastV_zero] at h1; omega
              have HV1 := Lib.hid hv1
              have hm1 : decide ((0 : Int) < ((nth dev0 p.devs r).maps.length : Int)) = false := by simp [hm0]
              have hm2 : ¬ 0 < (nth dev0 p.devs r).maps.length := by omega
              have hm3 : decide (0 < (nth dev0 p.devs r).maps.length) = false := by simp [hm0]
              clear hv1
              go_wp2_with fail
              go_meet
              exact ⟨by rw [HV1.out], rfl⟩
            · have hv1 : (nth mp0 (nth dev0 p.devs r).maps ((nth dev0 p.devs r).maps.length - 1)).v = lv := by have h1 := HVV.out; rw [lastV_pos _ (by omega)] at h1; exact h1
              obtain ⟨A9, c9, hA9, hc9, hr9⟩ := hmr.isl (S := fun _ => True) (fun _ _ _ => trivial)
              simp only [Value.slice.injEq, true_and] at hA9
              obtain ⟨rfl, rfl⟩ := hA9
              obtain ⟨bm, om, rfl, _, hcl⟩ := maps_cells hr9 (by omega)
              obtain ⟨z0, _, _⟩ := hcl ((nth dev0 p.devs r).maps.length - 1) (by omega)
              rw [hv1] at z0
              have HMV' := HMV
              have e5 : (((nth dev0 p.devs r).maps.length : Int) - 1).toNat = (nth dev0 p.devs r).maps.length - 1 := by omega
              clear hv1 hcl hr9 hmr HMV HMR HOD
              generalize (nth dev0 p.devs r).maps.length = ml at *
              have i1 : (0 : Int) ≤ (ml : Int) - 1 := by omega
              have i2 : (1 : Int) ≤ (ml : Int) := by omega
              have i3 : (ml : Int) - 1 < ml := by omega
              have i4 : 0 < ml := by omega
              go_wp2_with fail
              go_meet
              exact ⟨rfl, rfl⟩
          case rest =>
            obtain ⟨rfl, rfl⟩ := hcut
            by_cases hv2 : lv + 1 ≤ 281474976710655
            · have q0 := Int.tmod_lt_of_pos b (show (0 : Int) < p.data by omega)
              have q1 := Int.lt_tmod_of_pos b (show (0 : Int) < p.data by omega)
              have q2 := Int.tmod_lt_of_pos (b.tmod p.data + p.data) (show (0 : Int) < p.data by omega)
              have q3 := Int.tmod_nonneg (a := b.tmod p.data + p.data) p.data (by omega)
              generalize ht1 : b.tmod p.data = tb at *
              generalize ht2 : (tb + p.data).tmod p.data = mb at *
              have e1 : IntKind.i64.wrap (tb + p.data) = tb + p.data := by simp only [IntKind.wrap_i64]; omega
              obtain ⟨i0, hi0, hz0, hz1, hz2⟩ := info_parts info_map
              obtain ⟨hq, hbq, hb5'⟩ := plus_ok (m := ⟨lv + 1, mb, 0⟩) HZ.out hr hpc (by rw [HVV.out]) hv2 ⟨q3, q2⟩ rfl
              have hokq := plus_pok (m := ⟨lv + 1, mb, 0⟩) hok hr ⟨by simp only [In64]; omega, by simp only [In64]; omega, by simp [In64]⟩ hmlen
              have HBQ := Lib.hid hbq
              have HB5 := Lib.hid hb5'
              have HOKQ := Lib.hid hokq
              have HMO := Lib.hid hmr
              have HCA := Lib.hid (fun o => (Below.cell (p := ⟨g, r * 5 + 4, none⟩) (((Below.refl wc.heap.size wc).alloc (Nat.le_refl _) o).drew) hgl).trans e4)
              have HDA := Lib.hid (fun o => (Below.cell (p := ⟨w.heap.size, 3, none⟩) (((Below.refl wc.heap.size wc).alloc (Nat.le_refl _) o).drew) hlt0).trans x3)
              have HFA := Lib.hid (fun o => (Below.frozen (p := ⟨g, r * 5 + 4, none⟩) (((Below.refl wc.heap.size wc).alloc (Nat.le_refl _) o).drew) hgl).trans hfz)
              clear hq hbq hb5' hokq hmr y0 y1 y2 y3 y4 x0 x1 x2 x4
              go_wp2_with fail
              go_cut [94] (fun s94 wx => ∃ M', OwnDevs wx w3.heap.size (.slice (some ⟨g, 0, none⟩) p.devs.length c4) (p.plus r ⟨lv + 1, mb, 0⟩).devs M' ∧ Below w1.heap.size w1 wx ∧ PBox wx w4.heap.size p (some ⟨g, 0, none⟩) p.devs.length c4)
              case first =>
                refine wp_region_till (T := fun j => j == 21) (S := fun w' => w'.cell? ⟨g, r * 5 + 4, none⟩ = some (.slice Am (nth dev0 p.devs r).maps.length cm) ∧ w'.cell? ⟨w.heap.size, 3, none⟩ = some (.int .i64 p.data)) (by kernel_rfl) ⟨e4, x3⟩ (fun hHeld => ?_)
                refine wpTill_take 0 (oi := _) (v := ?_) rfl (by kernel_rfl) (by kernel_rfl) (by kernel_rfl) (by kernel_rfl) (fun _ _ _ h => h) (by rfl) hHeld ?_ ?_
                rotate_left
                · (intro w hSw; obtain ⟨hSw1, hSw2⟩ := hSw; go_simp; (try with_reducible rfl))
                simp only [Act.put, List.setIfInBounds_toArray, List.set_cons_zero, List.set_cons_succ]
                refine wpTill_take 1 (oi := _) (v := ?_) rfl (by kernel_rfl) (by kernel_rfl) (by kernel_rfl) (by kernel_rfl) (fun _ _ _ h => h) (by rfl) hHeld ?_ ?_
                rotate_left
                · (intro w hSw; obtain ⟨hSw1, hSw2⟩ := hSw; go_simp; (try with_reducible rfl))
                simp only [Act.put, List.setIfInBounds_toArray, List.set_cons_zero, List.set_cons_succ]
                refine wpTill_take 2 (oi := _) (v := ?_) rfl (by kernel_rfl) (by kernel_rfl) (by kernel_rfl) (by kernel_rfl) (fun _ _ _ h => h) (by rfl) hHeld ?_ ?_
                rotate_left
                · (intro w hSw; obtain ⟨hSw1, hSw2⟩ := hSw; go_simp; (try with_reducible rfl))
                simp only [Act.put, List.setIfInBounds_toArray, List.set_cons_zero, List.set_cons_succ]
                refine wpTill_take 3 (oi := _) (v := ?_) rfl (by kernel_rfl) (by kernel_rfl) (by kernel_rfl) (by kernel_rfl) (fun _ _ _ h => h) (by rfl) hHeld ?_ ?_
                rotate_left
                · (intro w hSw; obtain ⟨hSw1, hSw2⟩ := hSw; go_simp; (try with_reducible rfl))
                simp only [Act.put, List.setIfInBounds_toArray, List.set_cons_zero, List.set_cons_succ]
                refine wpTill_take 4 (oi := _) (v := ?_) rfl (by kernel_rfl) (by kernel_rfl) (by kernel_rfl) (by kernel_rfl) (fun _ _ _ h => h) (by rfl) hHeld ?_ ?_
                rotate_left
                · (intro w hSw; obtain ⟨hSw1, hSw2⟩ := hSw; go_simp; (try with_reducible rfl))
                simp only [Act.put, List.setIfInBounds_toArray, List.set_cons_zero, List.set_cons_succ]
                refine wpTill_take 5 (oi := _) (v := ?_) rfl (by kernel_rfl) (by kernel_rfl) (by kernel_rfl) (by kernel_rfl) (fun _ _ _ h => h) (by rfl) hHeld ?_ ?_
                rotate_left
                · (intro w hSw; obtain ⟨hSw1, hSw2⟩ := hSw; go_simp; (try with_reducible rfl))
                simp only [Act.put, List.setIfInBounds_toArray, List.set_cons_zero, List.set_cons_succ]
                refine wpTill_take 6 (oi := _) (v := ?_) rfl (by kernel_rfl) (by kernel_rfl) (by kernel_rfl) (by kernel_rfl) (fun _ _ _ h => h) (by rfl) hHeld ?_ ?_
                rotate_left
                · (intro w hSw; obtain ⟨hSw1, hSw2⟩ := hSw; go_simp; (try with_reducible rfl))
                simp only [Act.put, List.setIfInBounds_toArray, List.set_cons_zero, List.set_cons_succ]
                refine wpTill_take 7 (oi := _) (v := ?_) rfl (by kernel_rfl) (by kernel_rfl) (by kernel_rfl) (by kernel_rfl) (fun _ _ _ h => h) (by rfl) hHeld ?_ ?_
                rotate_left
                · (intro w hSw; obtain ⟨hSw1, hSw2⟩ := hSw; go_simp; (try with_reducible rfl))
                simp only [Act.put, List.setIfInBounds_toArray, List.set_cons_zero, List.set_cons_succ]
                refine wpTill_take 8 (oi := _) (v := ?_) rfl (by kernel_rfl) (by kernel_rfl) (by kernel_rfl) (by kernel_rfl) (fun _ _ _ h => h) (by rfl) hHeld ?_ ?_
                rotate_left
                · (intro w hSw; obtain ⟨hSw1, hSw2⟩ := hSw; go_simp; (try with_reducible rfl))
                simp only [Act.put, List.setIfInBounds_toArray, List.set_cons_zero, List.set_cons_succ]
                refine wpTill_take 9 (oi := _) (v := ?_) rfl (by kernel_rfl) (by kernel_rfl) (by kernel_rfl) (by kernel_rfl) (fun _ _ _ h => h) (by rfl) hHeld ?_ ?_
                rotate_left
                · (intro w hSw; obtain ⟨hSw1, hSw2⟩ := hSw; go_simp; (try with_reducible rfl))
                simp only [Act.put, List.setIfInBounds_toArray, List.set_cons_zero, List.set_cons_succ]
                refine wpTill_take 10 (oi := _) (v := ?_) rfl (by kernel_rfl) (by kernel_rfl) (by kernel_rfl) (by kernel_rfl) (fun _ _ _ h => h) (by rfl) hHeld ?_ ?_
                rotate_left
                · (intro w hSw; obtain ⟨hSw1, hSw2⟩ := hSw; go_simp; (try with_reducible rfl))
                simp only [Act.put, List.setIfInBounds_toArray, List.set_cons_zero, List.set_cons_succ]
                refine wpTill_take 11 (oi := _) (v := ?_) rfl (by kernel_rfl) (by kernel_rfl) (by kernel_rfl) (by kernel_rfl) (fun _ _ _ h => h) (by rfl) hHeld ?_ ?_
                rotate_left
                · (intro w hSw; obtain ⟨hSw1, hSw2⟩ := hSw; go_simp; (try with_reducible rfl))
                simp only [Act.put, List.setIfInBounds_toArray, List.set_cons_zero, List.set_cons_succ]
                refine wpTill_take 12 (oi := _) (v := ?_) rfl (by kernel_rfl) (by kernel_rfl) (by kernel_rfl) (by kernel_rfl) (fun _ _ _ h => h) (by rfl) hHeld ?_ ?_
                rotate_left
                · (intro w hSw; obtain ⟨hSw1, hSw2⟩ := hSw; go_simp; (try with_reducible rfl))
                simp only [Act.put, List.setIfInBounds_toArray, List.set_cons_zero, List.set_cons_succ]
                refine wpTill_take 13 (oi := _) (v := ?_) rfl (by kernel_rfl) (by kernel_rfl) (by kernel_rfl) (by kernel_rfl) (fun _ _ _ h => h) (by rfl) hHeld ?_ ?_
                rotate_left
                · (intro w hSw; obtain ⟨hSw1, hSw2⟩ := hSw; go_simp; (try with_reducible rfl))
                simp only [Act.put, List.setIfInBounds_toArray, List.set_cons_zero, List.set_cons_succ]
                refine wpTill_take 14 (oi := _) (v := ?_) rfl (by kernel_rfl) (by kernel_rfl) (by kernel_rfl) (by kernel_rfl) (fun _ _ _ h => h) (by rfl) hHeld ?_ ?_
                rotate_left
                · (intro w hSw; obtain ⟨hSw1, hSw2⟩ := hSw; go_simp; (try with_reducible rfl))
                simp only [Act.put, List.setIfInBounds_toArray, List.set_cons_zero, List.set_cons_succ]
                refine wpTill_take 15 (oi := _) (v := ?_) rfl (by kernel_rfl) (by kernel_rfl) (by kernel_rfl) (by kernel_rfl) (fun _ _ _ h => h) (by rfl) hHeld ?_ ?_
                rotate_left
                · (intro w hSw; obtain ⟨hSw1, hSw2⟩ := hSw; go_simp; (try with_reducible rfl))
                simp only [Act.put, List.setIfInBounds_toArray, List.set_cons_zero, List.set_cons_succ]
                refine wpTill_take 16 (oi := _) (v := ?_) rfl (by kernel_rfl) (by kernel_rfl) (by kernel_rfl) (by kernel_rfl) (fun _ _ _ h => h) (by rfl) hHeld ?_ ?_
                rotate_left
                · (intro w hSw; obtain ⟨hSw1, hSw2⟩ := hSw; go_simp; (try with_reducible rfl))
                simp only [Act.put, List.setIfInBounds_toArray, List.set_cons_zero, List.set_cons_succ]
                refine wpTill_one 17 (o := _) (by kernel_rfl) rfl (fun K hK => ?_)
                go_simp
                refine hK.out _ _ (fun _ => ⟨HCA.out _, HDA.out _⟩) (fun hHeld => ?_)
                clear hK K
                (try simp only [Act.put, List.setIfInBounds_toArray, List.set_cons_zero, List.set_cons_succ])
                refine wpTill_one 18 (o := _) (by kernel_rfl) rfl (fun K hK => ?_)
                refine step_append_lies _ (by rfl) _ _ _ (by rfl) w3.heap.size 38 i0 _ 3 24 Try.underlying34 hi0 hz0 hz1 hz2 rfl (by omega) (.slice Am (nth dev0 p.devs r).maps.length cm) ((nth dev0 p.devs r).maps.length) (flats Mp.enc (nth dev0 p.devs r).maps) (by rfl) ((HMO.out.alloc _).drew) ⟨wc.heap.size, 0, none⟩ 1 1 [.int .i64 (lv + 1), .int .i64 mb, .int .i64 0] (by rfl) (by rfl) (World.news_of_block (cs := #[.int .i64 (lv + 1), .int .i64 mb, .int .i64 0]) (t := 38) (fr := (0, 0)) (heap_alloc_new wc _)) (by simp [Value.oneCell']) (by omega) (by unfold maxLen; omega) (by omega) (by simp; omega) (wc.heap.size + 1) (by simp) ?_
                intro gg cap w7 hown1 hgrow hat hlt
                have hc7 := (hgrow.cell_far ⟨g, r * 5 + 4, none⟩ (by simp; omega) (Ne.symm hgn)).trans (HCA.out _)
                have hd7 := (hgrow.cell_far ⟨w.heap.size, 3, none⟩ (by simp; omega) (Ne.symm hwn)).trans (HDA.out _)
                have hfz7 := (hgrow.frozen_far ⟨g, r * 5 + 4, none⟩ (by simp; omega) (Ne.symm hgn)).trans (HFA.out _)
                refine hK.out _ _ (fun _ => ⟨hc7, hd7⟩) (fun hHeld => ?_)
                clear hK K
                (try simp only [Act.put, List.setIfInBounds_toArray, List.set_cons_zero, List.set_cons_succ])
                refine wpTill_one 19 (o := _) (by kernel_rfl) rfl (fun K hK => ?_)
                go_simp
                refine hK.out _ _ (fun _ => ⟨hc7, hd7⟩) (fun hHeld => ?_)
                clear hK K
                (try simp only [Act.put, List.setIfInBounds_toArray, List.set_cons_zero, List.set_cons_succ])
                refine wpTill_one 20 (o := _) (by kernel_rfl) rfl (fun K hK => ?_)
                go_simp
                refine hK.out _ _ (fun _ => ⟨hc7, hd7⟩) (fun hHeld => ?_)
                clear hK K
                (try simp only [Act.put, List.setIfInBounds_toArray, List.set_cons_zero, List.set_cons_succ])
                refine wpTill_one 21 (o := _) (by kernel_rfl) rfl (fun K hK => ?_)
                go_simp
                refine hK.out _ _ (fun h => by cases h) (fun hHeld => ?_)
                clear hK K
                refine wpTill_done (by kernel_rfl) ?_ _
                go_wp2_with fail
                go_meet
                exact ⟨_, grown_all HOD.out HMV.out hr hgrow hat hown1, grown_below hk6 (by have := hk3.size; omega) hgrow (fun i hi => by have := (HMO.out.lt i hi).1; have := hk3.size; omega) (by have := hk6.size; omega), grown_box hb6 hgrow hqn (by omega)⟩
              case rest =>
                obtain ⟨M', hod9, hk9, hb9⟩ := hcut
                have hip := own_pool hod9
                have HBQQ := Lib.hid (fun w' (hB : Below wc.heap.size wc w') => base_any w' _ _ _ (fun b hb => Nat.lt_of_lt_of_le hb.2 hB.size) (hip.below hB (fun b hb => hb.2)) HOKQ.out)
                have HNQ := Lib.hid (fun w' (hB : Below wc.heap.size wc w') => need_any w' _ _ _ (fun b hb => Nat.lt_of_lt_of_le hb.2 hB.size) (hip.below hB (fun b hb => hb.2)) HOKQ.out)
                have HQ := Lib.hid (fun w' (hB : Below wc.heap.size wc w') => (hb9.below hB hb9.lt).cells)
                have z1 := HBQ.out
                have z2 := HB5.out
                have z3 : needN p ≤ needN (p.plus r ⟨lv + 1, mb, 0⟩) := needB_mono (by omega) z1
                have z4 : 0 < needN p := by show 0 < needB (baseN p); unfold needB; rw [if_neg (by omega)]; omega
                have z5 : 0 < needN (p.plus r ⟨lv + 1, mb, 0⟩) := by omega
                clear hip hod9 hb9 HBQ HB5 HOKQ HMO HCA HFA HOD HMV HMR HVV hi0 hz0 hz1 hz2 e1 ht2 q0 q1 q2 q3 e4 x3 ht1
                generalize baseN (p.plus r ⟨lv + 1, mb, 0⟩) = bq at *
                generalize needN (p.plus r ⟨lv + 1, mb, 0⟩) = nq at *
                generalize baseN p = bp at *
                generalize needN p = np at *
                have hkb := Below.refl wc.heap.size wc
                obtain ⟨x0, x1, x2, x3, x4⟩ := HP.out _ hk9
                obtain ⟨y0, y1, y2, y3, y4⟩ := HQ.out _ hkb
                have hkb := hkb.drew
                go_wp2_with fail
                go_region_held3 (fun w' => w'.cell? ⟨w.heap.size, 0, none⟩ = some (.int .i64 p.tx) ∧ w'.cell? ⟨w.heap.size, 1, none⟩ = some (.int .i64 p.time) ∧ w'.cell? ⟨w.heap.size, 2, none⟩ = some (.int .i64 p.unit) ∧ w'.cell? ⟨w.heap.size, 3, none⟩ = some (.int .i64 p.data) ∧ w'.cell? ⟨w.heap.size, 4, none⟩ = some (.slice A p.devs.length c) ∧ w'.cell? ⟨w4.heap.size, 0, none⟩ = some (.int .i64 p.tx) ∧ w'.cell? ⟨w4.heap.size, 1, none⟩ = some (.int .i64 p.time) ∧ w'.cell? ⟨w4.heap.size, 2, none⟩ = some (.int .i64 p.unit) ∧ w'.cell? ⟨w4.heap.size, 3, none⟩ = some (.int .i64 p.data) ∧ w'.cell? ⟨w4.heap.size, 4, none⟩ = some (.slice (some ⟨g, 0, none⟩) p.devs.length c4)) (go_keep)
                  (first
                    | (go_at_call 7; (with_reducible refine (lives20 _).mono ?_); rintro e wf ⟨rfl, hBf⟩; have hkf := hke.trans (hBf.mono hke.size); clear x0 x1 x2 x3 x4 y0 y1 y2 y3 y4; obtain ⟨x0, x1, x2, x3, x4⟩ := HP.out _ (hk9.trans (hkf.mono hk9.size)); obtain ⟨y0, y1, y2, y3, y4⟩ := HQ.out _ hkf)
                    | (go_at_call 12; have _ := tkd; (with_reducible refine (HNQ.out _ hkd).mono ?_); rintro e we ⟨rfl, hBe⟩; have hke := hkd.trans (hBe.mono hkd.size); clear x0 x1 x2 x3 x4 y0 y1 y2 y3 y4; obtain ⟨x0, x1, x2, x3, x4⟩ := HP.out _ (hk9.trans (hke.mono hk9.size)); obtain ⟨y0, y1, y2, y3, y4⟩ := HQ.out _ hke)
                    | (go_at_call 12; have _ := hkc; (with_reducible refine (HND.out _ (HUP.out _ (hk9.trans (hkc.mono hk9.size)))).mono ?_); rintro e wd ⟨rfl, hBd⟩; have hkd := hkc.trans (hBd.mono hkc.size); clear x0 x1 x2 x3 x4 y0 y1 y2 y3 y4; obtain ⟨x0, x1, x2, x3, x4⟩ := HP.out _ (hk9.trans (hkd.mono hk9.size)); obtain ⟨y0, y1, y2, y3, y4⟩ := HQ.out _ hkd; have tkd := True.intro)
                    | (go_at_call 12; have _ := hka; (with_reducible refine (HNQ.out _ hka).mono ?_); rintro e wc ⟨rfl, hBc⟩; have hkc := hka.trans (hBc.mono hka.size); clear x0 x1 x2 x3 x4 y0 y1 y2 y3 y4; obtain ⟨x0, x1, x2, x3, x4⟩ := HP.out _ (hk9.trans (hkc.mono hk9.size)); obtain ⟨y0, y1, y2, y3, y4⟩ := HQ.out _ hkc)
                    | (go_at_call 10; have _ := hkz; (with_reducible refine (HBA.out _ (HUP.out _ (hk9.trans (hkz.mono hk9.size)))).mono ?_); rintro e wa ⟨rfl, hBa⟩; have hka := hkz.trans (hBa.mono hkz.size); clear x0 x1 x2 x3 x4 y0 y1 y2 y3 y4; obtain ⟨x0, x1, x2, x3, x4⟩ := HP.out _ (hk9.trans (hka.mono hk9.size)); obtain ⟨y0, y1, y2, y3, y4⟩ := HQ.out _ hka)
                    | (go_at_call 10; (with_reducible refine (HBQQ.out _ hkb).mono ?_); rintro e wz ⟨rfl, hBz⟩; have hkz := hkb.trans (hBz.mono hkb.size); clear x0 x1 x2 x3 x4 y0 y1 y2 y3 y4; obtain ⟨x0, x1, x2, x3, x4⟩ := HP.out _ (hk9.trans (hkz.mono hk9.size)); obtain ⟨y0, y1, y2, y3, y4⟩ := HQ.out _ hkz))
                go_wp2_with fail
                go_ret
                exact ⟨rfl, HUP.out _ (hk9.trans (hkf.mono hk9.size))⟩
            · clear x0 x1 x2 x3 x4 y0 y1 y2 y3 y4
              go_wp2_with (go_at_call 7; refine (lives20 _).mono ?_; rintro e wl ⟨rfl, hBl⟩; have hkl := hk6.trans (hBl.mono hk6.size))
              go_ret
              exact ⟨rfl, HUP.out _ hkl⟩
    · have hzb : (poolChk p != 0) = true := by simp [hz]
      clear hz
      go_enter Try.func5, Try.ntmps5
      go_wp2_with (first
        | (go_at_call 6; refine (HFW.out _ (HUP.out _ hk0)).mono ?_; rintro e w2 ⟨rfl, hB2⟩; have hk2 := hk0.trans (hB2.mono hk0.size); obtain ⟨x0, x1, x2, x3, x4⟩ := HP.out _ hk2)
        | (go_at_call 16; refine (HCK.out _ (HUP.out _ hk2)).mono ?_; rintro e w3 ⟨rfl, hB3⟩; have hk3 := hk2.trans (hB3.mono hk2.size); clear x0 x1 x2 x3 x4; obtain ⟨x0, x1, x2, x3, x4⟩ := HP.out _ hk3)
        | (go_at_call 7; refine (lives20 _).mono ?_; rintro e wl ⟨rfl, hBl⟩; have hkl := hk3.trans (hBl.mono hk3.size)))
      go_ret
      exact ⟨rfl, HUP.out _ hkl⟩
  · have hf1 : fewN p = 0 := by unfold fewN; rw [if_neg hf]
    rw [hf1] at HFW
    clear hf hf1
    go_enter Try.func5, Try.ntmps5
    go_wp2_with (first
      | (go_at_call 6; refine (HFW.out _ (HUP.out _ hk0)).mono ?_; rintro e w2 ⟨rfl, hB2⟩; have hk2 := hk0.trans (hB2.mono hk0.size))
      | (go_at_call 7; refine (lives20 _).mono ?_; rintro e w9 ⟨rfl, hB9⟩; have hk9 := hk2.trans (hB9.mono hk2.size)))
    go_ret
    exact ⟨rfl, HUP.out _ hk9⟩
end Go.Proofs.Ytooffkhdanimbaa
