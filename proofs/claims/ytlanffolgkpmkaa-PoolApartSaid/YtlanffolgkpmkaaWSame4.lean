/- scantlingref18.Same: whether two pools are the same. Condition: no slice is longer than the reach. -/
import Derived.Test.YtlanffolgkpmkaaWSame3
import Derived.Test.YtlanffolgkpmkaaWPoolRefs
import Derived.Deep.RegionHeld3
namespace Go.Proofs.Ytlanffolgkpmkaa
open Go.RowKit

set_option maxRecDepth 100000 in
set_option maxHeartbeats 3200000 in
theorem rsamePool_any (w : World) (S1 S2 : Nat → Prop) (v1 v2 : Value) (d e : Pool) (hS1 : ∀ b, S1 b → b < w.heap.size) (hS2 : ∀ b, S2 b → b < w.heap.size) (h1 : IsPool w S1 v1 d) (h2 : IsPool w S2 v2 e) (hn : d.devs.length ≤ 1099511627776) (hm : ∀ k, k < d.devs.length → (nth dev0 d.devs k).maps.length ≤ 140737488355328) :
    Calls Try.prog 14 #[v1, v2] w fun x w' => x = .returned (.bool (decide (d = e))) ∧ Below w.heap.size w w' := by
  obtain ⟨A, c, rfl, hc, hra⟩ := h1
  obtain ⟨B, k, rfl, hd, hrb⟩ := h2
  have hB0 : Below w.heap.size w ((w.alloc (poolBox d A d.devs.length c)).alloc (poolBox e B e.devs.length k)) :=
    ((Below.refl _ _).alloc (Nat.le_refl _) _).alloc (by simp) _
  dsimp only [poolBox] at hB0
  have HD := Lib.hid (pool_dec d e)
  by_cases g1 : d.tx = e.tx
  · skip
    by_cases g2 : d.time = e.time
    · skip
      by_cases g3 : d.unit = e.unit
      · skip
        by_cases g4 : d.data = e.data
        · skip
          by_cases g5 : e.devs.length = d.devs.length
          · skip
            have b1 : (d.tx != e.tx) = false := by simp [g1]
            have b2 : (d.time != e.time) = false := by simp [g2]
            have b3 : (d.unit != e.unit) = false := by simp [g3]
            have b4 : (d.data != e.data) = false := by simp [g4]
            have HEQ : Hid (decide (d = e) = decide (d.devs = e.devs)) := Lib.hid (by rw [HD.out]; simp [g1, g2, g3, g4])
            have hp1 : PBox ((w.alloc (poolBox d A d.devs.length c)).alloc (poolBox e B e.devs.length k)) w.heap.size d A d.devs.length c := (PBox.new w d A d.devs.length c).below (Below.alloc (Below.refl _ _) (Nat.le_refl _) _) (by simp)
            have hp2 : PBox ((w.alloc (poolBox d A d.devs.length c)).alloc (poolBox e B e.devs.length k)) (w.heap.size + 1) e B e.devs.length k := by have h := PBox.new (w.alloc (poolBox d A d.devs.length c)) e B e.devs.length k; rw [World.size_alloc] at h; exact h
            dsimp only [poolBox] at hp1 hp2 hB0
            rw [g5] at hp2 hB0 hp1 ⊢
            clear HD g1 g2 g3 g4
            have HL := Lib.hid g5
            clear g5
            generalize hna : d.devs.length = n at *
            have HA := Lib.hid hna
            have HMM := Lib.hid hm
            clear hna hm
            go_enter Try.func14, Try.ntmps14
            go_wp2_with fail
            have hz0 : ((w.alloc (.cells #[.int .i64 d.tx, .int .i64 d.time, .int .i64 d.unit, .int .i64 d.data, .slice A n c] 24)).alloc (.cells #[.int .i64 e.tx, .int .i64 e.time, .int .i64 e.unit, .int .i64 e.data, .slice B n k] 24)).heap.size = w.heap.size + 2 := by simp
            generalize (w.alloc (.cells #[.int .i64 d.tx, .int .i64 d.time, .int .i64 d.unit, .int .i64 d.data, .slice A n c] 24)).alloc (.cells #[.int .i64 e.tx, .int .i64 e.time, .int .i64 e.unit, .int .i64 e.data, .slice B n k] 24) = w0 at *
            go_loopw [5] (fun i wr => ∃ j : Nat, i = .int .i64 j ∧ j ≤ n ∧ (∀ m, m < j → nth dev0 d.devs m = nth dev0 e.devs m) ∧ Below w0.heap.size w0 wr) (fun i _ => n - (intOf i).toNat)
            case atStart => exact ⟨0, rfl, by omega, fun j hj => absurd hj (by omega), Below.refl _ _⟩
            case round =>
              obtain ⟨j, rfl, hj, hsm, hB⟩ := hrel
              have HS := Lib.hid hsm
              clear hsm
              have hsz := hB.size
              have hp1r := hp1.below (b := w.heap.size) hB (by omega)
              have hp2r := hp2.below (b := w.heap.size + 1) hB (by omega)
              obtain ⟨x0, x1, x2, x3, x4⟩ := hp1r.cells
              obtain ⟨y0, y1, y2, y3, y4⟩ := hp2r.cells
              have hBw : Below w.heap.size w wr := hB0.trans (hB.mono (by omega))
              by_cases hlt : j < n
              · obtain ⟨ba, oa, rfl, hba, hca⟩ := devs_cells (hra.keep rdev_stable (fun _ h => h) (keep_below hBw hS1)) (by rw [HA.out]; omega)
                obtain ⟨a0, a1, a2, a3, Aa, ca, a4, hca', hra'⟩ := hca j (by rw [HA.out]; exact hlt)
                obtain ⟨bb, ob, rfl, hbb, hcb⟩ := devs_cells (hrb.keep rdev_stable (fun _ h => h) (keep_below hBw hS2)) (by rw [HL.out]; omega)
                obtain ⟨c0, c1, c2, c3, Ab, cb, c4, hcb', hrb'⟩ := hcb j (by rw [HL.out]; exact hlt)
                have hmk := HMM.out j hlt
                have hba2 : ba < wr.heap.size := by have := hS1 _ hba; omega
                have hbb2 : bb < wr.heap.size := by have := hS2 _ hbb; omega
                have hsame := rsameDev_any wr.drew S1 S2 (devV (nth dev0 d.devs j) Aa ca) (devV (nth dev0 e.devs j) Ab cb) (nth dev0 d.devs j) (nth dev0 e.devs j) (fun b hb => by have := hS1 b hb; show b < wr.heap.size; omega) (fun b hb => by have := hS2 b hb; show b < wr.heap.size; omega)
                  ⟨Aa, ca, rfl, hca', hra'⟩ ⟨Ab, cb, rfl, hcb', hrb'⟩ hmk
                dsimp only [devV] at hsame
                have HSM := Lib.hid hsame
                clear hca hcb hsame hra' hrb' hca' hcb'
                by_cases hx : nth dev0 d.devs j = nth dev0 e.devs j
                · have hS2 : ∀ m, m < j + 1 → nth dev0 d.devs m = nth dev0 e.devs m := fun m hm => by
                    by_cases e : m = j
                    · rw [e]; exact hx
                    · exact HS.out m (by omega)
                  have HS2 := Lib.hid hS2
                  have hxb : decide (nth dev0 d.devs j = nth dev0 e.devs j) = true := decide_eq_true hx
                  rw [hxb] at HSM
                  clear hx hS2 HS hxb
                  generalize nth dev0 d.devs j = z1 at *
                  generalize nth dev0 e.devs j = z2 at *
                  go_wp2_with fail
                  go_region_held3 (fun w' => w'.cell? ⟨w.heap.size, 4, none⟩ = some (.slice (some ⟨ba, oa, none⟩) n c) ∧ w'.cell? ⟨w.heap.size + 1, 4, none⟩ = some (.slice (some ⟨bb, ob, none⟩) n k) ∧
                      w'.cell? ⟨ba, oa + j * 5, none⟩ = some (.int .i64 z1.id) ∧ w'.cell? ⟨ba, oa + j * 5 + 1, none⟩ = some (.int .i64 z1.tx) ∧ w'.cell? ⟨ba, oa + j * 5 + 2, none⟩ = some (.int .i64 z1.made) ∧ w'.cell? ⟨ba, oa + j * 5 + 3, none⟩ = some (.int .i64 z1.snapped) ∧ w'.cell? ⟨ba, oa + j * 5 + 4, none⟩ = some (.slice Aa z1.maps.length ca) ∧
                      w'.cell? ⟨bb, ob + j * 5, none⟩ = some (.int .i64 z2.id) ∧ w'.cell? ⟨bb, ob + j * 5 + 1, none⟩ = some (.int .i64 z2.tx) ∧ w'.cell? ⟨bb, ob + j * 5 + 2, none⟩ = some (.int .i64 z2.made) ∧ w'.cell? ⟨bb, ob + j * 5 + 3, none⟩ = some (.int .i64 z2.snapped) ∧ w'.cell? ⟨bb, ob + j * 5 + 4, none⟩ = some (.slice Ab z2.maps.length cb)) (go_keep)
                    (first | (go_at_call 22; refine HSM.out.mono ?_; rintro x w2 ⟨rfl, hB4⟩; have hKK : ∀ b o, b < wr.heap.size → w2.cell? ⟨b, o, none⟩ = wr.cell? ⟨b, o, none⟩ := fun b o hb => hB4.cell (p := ⟨b, o, none⟩) hb; have i1 := (hKK _ _ hp1r.lt).trans x4; have i2 := (hKK _ _ hp2r.lt).trans y4; have j0 := (hKK _ _ hba2).trans a0; have j1 := (hKK _ _ hba2).trans a1; have j2 := (hKK _ _ hba2).trans a2; have j3 := (hKK _ _ hba2).trans a3; have j4 := (hKK _ _ hba2).trans a4; have m0 := (hKK _ _ hbb2).trans c0; have m1 := (hKK _ _ hbb2).trans c1; have m2 := (hKK _ _ hbb2).trans c2; have m3 := (hKK _ _ hbb2).trans c3; have m4 := (hKK _ _ hbb2).trans c4))
                  go_wp2_with fail
                  go_roundw
                  case rel => exact ⟨j + 1, by go_num, by omega, HS2.out, hB.drew.trans (hB4.mono (by simpa using hsz))⟩
                  case measure => simp [intOf]; omega
                · have hne : d.devs ≠ e.devs := fun x => hx (by rw [x])
                  have HE := Lib.hid (decide_eq_false hne)
                  have hxb : decide (nth dev0 d.devs j = nth dev0 e.devs j) = false := decide_eq_false hx
                  rw [hxb] at HSM
                  clear hne HS hx hxb
                  generalize nth dev0 d.devs j = z1 at *
                  generalize nth dev0 e.devs j = z2 at *
                  go_wp2_with fail
                  go_region_held3 (fun w' => w'.cell? ⟨w.heap.size, 4, none⟩ = some (.slice (some ⟨ba, oa, none⟩) n c) ∧ w'.cell? ⟨w.heap.size + 1, 4, none⟩ = some (.slice (some ⟨bb, ob, none⟩) n k) ∧
                      w'.cell? ⟨ba, oa + j * 5, none⟩ = some (.int .i64 z1.id) ∧ w'.cell? ⟨ba, oa + j * 5 + 1, none⟩ = some (.int .i64 z1.tx) ∧ w'.cell? ⟨ba, oa + j * 5 + 2, none⟩ = some (.int .i64 z1.made) ∧ w'.cell? ⟨ba, oa + j * 5 + 3, none⟩ = some (.int .i64 z1.snapped) ∧ w'.cell? ⟨ba, oa + j * 5 + 4, none⟩ = some (.slice Aa z1.maps.length ca) ∧
                      w'.cell? ⟨bb, ob + j * 5, none⟩ = some (.int .i64 z2.id) ∧ w'.cell? ⟨bb, ob + j * 5 + 1, none⟩ = some (.int .i64 z2.tx) ∧ w'.cell? ⟨bb, ob + j * 5 + 2, none⟩ = some (.int .i64 z2.made) ∧ w'.cell? ⟨bb, ob + j * 5 + 3, none⟩ = some (.int .i64 z2.snapped) ∧ w'.cell? ⟨bb, ob + j * 5 + 4, none⟩ = some (.slice Ab z2.maps.length cb)) (go_keep)
                    (first | (go_at_call 22; refine HSM.out.mono ?_; rintro x w2 ⟨rfl, hB4⟩; have hKK : ∀ b o, b < wr.heap.size → w2.cell? ⟨b, o, none⟩ = wr.cell? ⟨b, o, none⟩ := fun b o hb => hB4.cell (p := ⟨b, o, none⟩) hb; have i1 := (hKK _ _ hp1r.lt).trans x4; have i2 := (hKK _ _ hp2r.lt).trans y4; have j0 := (hKK _ _ hba2).trans a0; have j1 := (hKK _ _ hba2).trans a1; have j2 := (hKK _ _ hba2).trans a2; have j3 := (hKK _ _ hba2).trans a3; have j4 := (hKK _ _ hba2).trans a4; have m0 := (hKK _ _ hbb2).trans c0; have m1 := (hKK _ _ hbb2).trans c1; have m2 := (hKK _ _ hbb2).trans c2; have m3 := (hKK _ _ hbb2).trans c3; have m4 := (hKK _ _ hbb2).trans c4))
                  go_wp2_with fail
                  refine bodyPost_ret (results_tmp rfl _ _ _) rfl ?_
                  exact ⟨by rw [HEQ.out, HE.out]; rfl, hBw.drew.trans (hB4.mono (by show w.heap.size ≤ wr.heap.size; omega))⟩
              · have he : d.devs = e.devs := eq_of_nth dev0 (by rw [HA.out, HL.out]) (fun m hm => HS.out m (by rw [HA.out] at hm; omega))
                have HE := Lib.hid (decide_eq_true he)
                clear he HS
                go_wp2_with fail
                go_ret
                exact ⟨by rw [HEQ.out, HE.out]; rfl, hBw⟩
          · have HE : Hid (decide (d = e) = false) := Lib.hid (decide_eq_false (fun x => g5 (by rw [x])))
            have b1 : (d.tx != e.tx) = false := by simp [g1]
            have b2 : (d.time != e.time) = false := by simp [g2]
            have b3 : (d.unit != e.unit) = false := by simp [g3]
            have b4 : (d.data != e.data) = false := by simp [g4]
            have b5 : ((d.devs.length : Int) != (e.devs.length : Int)) = true := by simp; omega
            clear HD g1 g2 g3 g4 g5
            go_enter Try.func14, Try.ntmps14
            go_wp2
            go_ret
            exact ⟨by rw [HE.out]; rfl, hB0⟩
        · have HE : Hid (decide (d = e) = false) := Lib.hid (by rw [HD.out]; simp [g4])
          have b1 : (d.tx != e.tx) = false := by simp [g1]
          have b2 : (d.time != e.time) = false := by simp [g2]
          have b3 : (d.unit != e.unit) = false := by simp [g3]
          have b4 : (d.data != e.data) = true := by simp [g4]
          clear HD g1 g2 g3 g4
          go_enter Try.func14, Try.ntmps14
          go_wp2
          go_ret
          exact ⟨by rw [HE.out]; rfl, hB0⟩
      · have HE : Hid (decide (d = e) = false) := Lib.hid (by rw [HD.out]; simp [g3])
        have b1 : (d.tx != e.tx) = false := by simp [g1]
        have b2 : (d.time != e.time) = false := by simp [g2]
        have b3 : (d.unit != e.unit) = true := by simp [g3]
        clear HD g1 g2 g3
        go_enter Try.func14, Try.ntmps14
        go_wp2
        go_ret
        exact ⟨by rw [HE.out]; rfl, hB0⟩
    · have HE : Hid (decide (d = e) = false) := Lib.hid (by rw [HD.out]; simp [g2])
      have b1 : (d.tx != e.tx) = false := by simp [g1]
      have b2 : (d.time != e.time) = true := by simp [g2]
      clear HD g1 g2
      go_enter Try.func14, Try.ntmps14
      go_wp2
      go_ret
      exact ⟨by rw [HE.out]; rfl, hB0⟩
  · have HE : Hid (decide (d = e) = false) := Lib.hid (by rw [HD.out]; simp [g1])
    have b1 : (d.tx != e.tx) = true := by simp [g1]
    clear HD g1
    go_enter Try.func14, Try.ntmps14
    go_wp2
    go_ret
    exact ⟨by rw [HE.out]; rfl, hB0⟩
end Go.Proofs.Ytlanffolgkpmkaa
