import Derived.Test.YtolpgblegbahgaaWSameM
import Derived.Test.YtolpgblegbahgaaPBox
import Derived.Test.YtolpgblegbahgaaWIter
import Derived.Deep.RegionHeld3
import Derived.Test.YtolpgblegbahgaaRawC
import Derived.Deep.Cut
import Derived.Deep.DeepCutAuto
import Derived.Test.YtolpgblegbahgaaRankS
import Derived.Test.YtolpgblegbahgaaRankP
import Derived.Test.YtolpgblegbahgaaWRankSort
import Derived.Test.YtolpgblegbahgaaWOwn35
import Derived.Test.YtolpgblegbahgaaMap
import Derived.Deep.Slices
import Derived.Deep.Fields
import Derived.ChangeSame
import Derived.SizedLaws
import Derived.OpenShut
import Derived.Test.YtolpgblegbahgaaProg
import Derived.Test.YtolpgblegbahgaaPool
import Derived.Test.YtolpgblegbahgaaCand
import Derived.ChangeArms
set_option linter.unusedVariables false
set_option linter.unusedSimpArgs false
/- scantlingref18.SameDevice, Same: whether two devices, two pools are the same. Condition: no slice is longer than the reach. -/
namespace Go.Proofs.Ytolpgblegbahgaa
open Go.RowKit

deriving instance DecidableEq for Dev
deriving instance DecidableEq for Pool
theorem dev_ne {d e : Dev} (h : ¬ (d.id = e.id ∧ d.tx = e.tx ∧ d.made = e.made ∧ d.snapped = e.snapped ∧ d.maps = e.maps)) : d ≠ e := fun x => h (by rw [x]; simp)
theorem dev_eq {d e : Dev} (h1 : d.id = e.id) (h2 : d.tx = e.tx) (h3 : d.made = e.made) (h4 : d.snapped = e.snapped) (h5 : d.maps = e.maps) : d = e := by cases d; cases e; simp_all
/-- Two devices are the same: number for number. -/
theorem dev_dec (d e : Dev) : decide (d = e) = (decide (d.id = e.id) && (decide (d.tx = e.tx) && (decide (d.made = e.made) && (decide (d.snapped = e.snapped) && decide (d.maps = e.maps))))) := by
  cases d; cases e; simp
theorem pool_dec (d e : Pool) : decide (d = e) = (decide (d.tx = e.tx) && (decide (d.time = e.time) && (decide (d.unit = e.unit) && (decide (d.data = e.data) && decide (d.devs = e.devs))))) := by
  cases d; cases e; simp

set_option maxRecDepth 100000 in
set_option maxHeartbeats 1600000 in
theorem rsameDev_any (w : World) (S1 S2 : Nat → Prop) (v1 v2 : Value) (d e : Dev) (hS1 : ∀ b, S1 b → b < w.heap.size) (hS2 : ∀ b, S2 b → b < w.heap.size) (h1 : IsDev w S1 v1 d) (h2 : IsDev w S2 v2 e) (hn : d.maps.length ≤ 140737488355328) :
    Calls Try.prog 34 #[v1, v2] w fun x w' => x = .returned (.bool (decide (d = e))) ∧ Below w.heap.size w w' := by
  obtain ⟨A, c, rfl, hc, hra⟩ := h1
  obtain ⟨B, k, rfl, hd, hrb⟩ := h2
  have hB0 : Below w.heap.size w ((w.alloc (.cells #[.int .i64 d.id, .int .i64 d.tx, .int .i64 d.made, .int .i64 d.snapped, .slice A d.maps.length c] 50)).alloc (.cells #[.int .i64 e.id, .int .i64 e.tx, .int .i64 e.made, .int .i64 e.snapped, .slice B e.maps.length k] 50)) :=
    ((Below.refl _ _).alloc (Nat.le_refl _) _).alloc (by simp) _
  have hm := rsameMaps_any ((w.alloc (.cells #[.int .i64 d.id, .int .i64 d.tx, .int .i64 d.made, .int .i64 d.snapped, .slice A d.maps.length c] 50)).alloc (.cells #[.int .i64 e.id, .int .i64 e.tx, .int .i64 e.made, .int .i64 e.snapped, .slice B e.maps.length k] 50)) S1 S2 _ _ d.maps e.maps ⟨A, c, rfl, hc, hra.keep rmp_stable (fun _ h => h) (keep_below hB0 hS1)⟩ ⟨B, k, rfl, hd, hrb.keep rmp_stable (fun _ h => h) (keep_below hB0 hS2)⟩ hn
  have HM := Lib.hid hm
  have HD := Lib.hid (dev_dec d e)
  clear hm hra hrb hn hc hd
  by_cases g1 : d.id = e.id
  · skip
    by_cases g2 : d.tx = e.tx
    · skip
      by_cases g3 : d.made = e.made
      · skip
        by_cases g4 : d.snapped = e.snapped
        · skip
          have HE : Hid (decide (d = e) = decide (d.maps = e.maps)) := Lib.hid (by rw [HD.out]; simp [g1, g2, g3, g4])
          have b1 : (d.id == e.id) = true := by simp [g1]
          have b2 : (d.tx == e.tx) = true := by simp [g2]
          have b3 : (d.made == e.made) = true := by simp [g3]
          have b4 : (d.snapped == e.snapped) = true := by simp [g4]
          clear HD g1 g2 g3 g4
          go_enter Try.func34, Try.ntmps34
          go_wp2_with (go_at_call 41; refine HM.out.mono ?_; rintro x w2 ⟨rfl, m, rfl⟩)
          go_ret
          exact ⟨by rw [HE.out]; rfl, below_drewN hB0 m⟩
        · have HE : Hid (decide (d = e) = false) := Lib.hid (by rw [HD.out]; simp [g4])
          have b1 : (d.id == e.id) = true := by simp [g1]
          have b2 : (d.tx == e.tx) = true := by simp [g2]
          have b3 : (d.made == e.made) = true := by simp [g3]
          have b4 : (d.snapped == e.snapped) = false := by simp [g4]
          clear HD HM g1 g2 g3 g4
          go_enter Try.func34, Try.ntmps34
          go_wp2
          go_ret
          exact ⟨by rw [HE.out]; rfl, hB0⟩
      · have HE : Hid (decide (d = e) = false) := Lib.hid (by rw [HD.out]; simp [g3])
        have b1 : (d.id == e.id) = true := by simp [g1]
        have b2 : (d.tx == e.tx) = true := by simp [g2]
        have b3 : (d.made == e.made) = false := by simp [g3]
        clear HD HM g1 g2 g3
        go_enter Try.func34, Try.ntmps34
        go_wp2
        go_ret
        exact ⟨by rw [HE.out]; rfl, hB0⟩
    · have HE : Hid (decide (d = e) = false) := Lib.hid (by rw [HD.out]; simp [g2])
      have b1 : (d.id == e.id) = true := by simp [g1]
      have b2 : (d.tx == e.tx) = false := by simp [g2]
      clear HD HM g1 g2
      go_enter Try.func34, Try.ntmps34
      go_wp2
      go_ret
      exact ⟨by rw [HE.out]; rfl, hB0⟩
  · have HE : Hid (decide (d = e) = false) := Lib.hid (by rw [HD.out]; simp [g1])
    have b1 : (d.id == e.id) = false := by simp [g1]
    clear HD HM g1
    go_enter Try.func34, Try.ntmps34
    go_wp2
    go_ret
    exact ⟨by rw [HE.out]; rfl, hB0⟩
set_option maxRecDepth 100000 in
set_option maxHeartbeats 3200000 in
theorem rsamePool_any (w : World) (S1 S2 : Nat → Prop) (v1 v2 : Value) (d e : Pool) (hS1 : ∀ b, S1 b → b < w.heap.size) (hS2 : ∀ b, S2 b → b < w.heap.size) (h1 : IsPool w S1 v1 d) (h2 : IsPool w S2 v2 e) (hn : d.devs.length ≤ 1099511627776) (hm : ∀ k, k < d.devs.length → (nth dev0 d.devs k).maps.length ≤ 140737488355328) :
    Calls Try.prog 19 #[v1, v2] w fun x w' => x = .returned (.bool (decide (d = e))) ∧ Below w.heap.size w w' := by
  obtain ⟨A, c, rfl, hc, hra⟩ := h1
  obtain ⟨B, k, rfl, hd, hrb⟩ := h2
  have hB0 : Below w.heap.size w ((w.alloc (poolBox d A d.devs.length c)).alloc (poolBox e B e.devs.length k)) :=
    ((Below.refl _ _).alloc (Nat.le_refl _) _).alloc (by simp) _
  dsimp only [poolBox] at hB0
  have HD := Lib.hid (pool_dec d e)
  by_cases g1 : d.tx = e.tx
  · skip
    by_cases g2 : d.time = e.time
    · skip
      by_cases g3 : d.unit = e.unit
      · skip
        by_cases g4 : d.data = e.data
        · skip
          by_cases g5 : e.devs.length = d.devs.length
          · skip
            have b1 : (d.tx != e.tx) = false := by simp [g1]
            have b2 : (d.time != e.time) = false := by simp [g2]
            have b3 : (d.unit != e.unit) = false := by simp [g3]
            have b4 : (d.data != e.data) = false := by simp [g4]
            have HEQ : Hid (decide (d = e) = decide (d.devs = e.devs)) := Lib.hid (by rw [HD.out]; simp [g1, g2, g3, g4])
            have hp1 : PBox ((w.alloc (poolBox d A d.devs.length c)).alloc (poolBox e B e.devs.length k)) w.heap.size d A d.devs.length c := (PBox.new w d A d.devs.length c).below (Below.alloc (Below.refl _ _) (Nat.le_refl _) _) (by simp)
            have hp2 : PBox ((w.alloc (poolBox d A d.devs.length c)).alloc (poolBox e B e.devs.length k)) (w.heap.size + 1) e B e.devs.length k := by have h := PBox.new (w.alloc (poolBox d A d.devs.length c)) e B e.devs.length k; rw [World.size_alloc] at h; exact h
            dsimp only [poolBox] at hp1 hp2 hB0
            rw [g5] at hp2 hB0 hp1 ⊢
            clear HD g1 g2 g3 g4
            have HL := Lib.hid g5
            clear g5
            generalize hna : d.devs.length = n at *
            have HA := Lib.hid hna
            have HMM := Lib.hid hm
            clear hna hm
            go_enter Try.func19, Try.ntmps19
            go_wp2_with fail
            have hz0 : ((w.alloc (.cells #[.int .i64 d.tx, .int .i64 d.time, .int .i64 d.unit, .int .i64 d.data, .slice A n c] 31)).alloc (.cells #[.int .i64 e.tx, .int .i64 e.time, .int .i64 e.unit, .int .i64 e.data, .slice B n k] 31)).heap.size = w.heap.size + 2 := by simp
            generalize (w.alloc (.cells #[.int .i64 d.tx, .int .i64 d.time, .int .i64 d.unit, .int .i64 d.data, .slice A n c] 31)).alloc (.cells #[.int .i64 e.tx, .int .i64 e.time, .int .i64 e.unit, .int .i64 e.data, .slice B n k] 31) = w0 at *
            go_loopw [5] (fun i wr => ∃ j : Nat, i = .int .i64 j ∧ j ≤ n ∧ (∀ m, m < j → nth dev0 d.devs m = nth dev0 e.devs m) ∧ Below w0.heap.size w0 wr) (fun i _ => n - (intOf i).toNat)
            case atStart => exact ⟨0, rfl, by omega, fun j hj => absurd hj (by omega), Below.refl _ _⟩
            case round =>
              obtain ⟨j, rfl, hj, hsm, hB⟩ := hrel
              have HS := Lib.hid hsm
              clear hsm
              have hsz := hB.size
              have hp1r := hp1.below (b := w.heap.size) hB (by omega)
              have hp2r := hp2.below (b := w.heap.size + 1) hB (by omega)
              obtain ⟨x0, x1, x2, x3, x4⟩ := hp1r.cells
              obtain ⟨y0, y1, y2, y3, y4⟩ := hp2r.cells
              have hBw : Below w.heap.size w wr := hB0.trans (hB.mono (by omega))
              by_cases hlt : j < n
              · obtain ⟨ba, oa, rfl, hba, hca⟩ := devs_cells (hra.keep rdev_stable (fun _ h => h) (keep_below hBw hS1)) (by rw [HA.out]; omega)
                obtain ⟨a0, a1, a2, a3, Aa, ca, a4, hca', hra'⟩ := hca j (by rw [HA.out]; exact hlt)
                obtain ⟨bb, ob, rfl, hbb, hcb⟩ := devs_cells (hrb.keep rdev_stable (fun _ h => h) (keep_below hBw hS2)) (by rw [HL.out]; omega)
                obtain ⟨c0, c1, c2, c3, Ab, cb, c4, hcb', hrb'⟩ := hcb j (by rw [HL.out]; exact hlt)
                have hmk := HMM.out j hlt
                have hba2 : ba < wr.heap.size := by have := hS1 _ hba; omega
                have hbb2 : bb < wr.heap.size := by have := hS2 _ hbb; omega
                have hsame := rsameDev_any wr.drew S1 S2 (devV (nth dev0 d.devs j) Aa ca) (devV (nth dev0 e.devs j) Ab cb) (nth dev0 d.devs j) (nth dev0 e.devs j) (fun b hb => by have := hS1 b hb; show b < wr.heap.size; omega) (fun b hb => by have := hS2 b hb; show b < wr.heap.size; omega)
                  ⟨Aa, ca, rfl, hca', hra'⟩ ⟨Ab, cb, rfl, hcb', hrb'⟩ hmk
                dsimp only [devV] at hsame
                have HSM := Lib.hid hsame
                clear hca hcb hsame hra' hrb' hca' hcb'
                by_cases hx : nth dev0 d.devs j = nth dev0 e.devs j
                · have hS2 : ∀ m, m < j + 1 → nth dev0 d.devs m = nth dev0 e.devs m := fun m hm => by
                    by_cases e : m = j
                    · rw [e]; exact hx
                    · exact HS.out m (by omega)
                  have HS2 := Lib.hid hS2
                  have hxb : decide (nth dev0 d.devs j = nth dev0 e.devs j) = true := decide_eq_true hx
                  rw [hxb] at HSM
                  clear hx hS2 HS hxb
                  generalize nth dev0 d.devs j = z1 at *
                  generalize nth dev0 e.devs j = z2 at *
                  go_wp2_with fail
                  go_region_held3 (fun w' => w'.cell? ⟨w.heap.size, 4, none⟩ = some (.slice (some ⟨ba, oa, none⟩) n c) ∧ w'.cell? ⟨w.heap.size + 1, 4, none⟩ = some (.slice (some ⟨bb, ob, none⟩) n k) ∧
                      w'.cell? ⟨ba, oa + j * 5, none⟩ = some (.int .i64 z1.id) ∧ w'.cell? ⟨ba, oa + j * 5 + 1, none⟩ = some (.int .i64 z1.tx) ∧ w'.cell? ⟨ba, oa + j * 5 + 2, none⟩ = some (.int .i64 z1.made) ∧ w'.cell? ⟨ba, oa + j * 5 + 3, none⟩ = some (.int .i64 z1.snapped) ∧ w'.cell? ⟨ba, oa + j * 5 + 4, none⟩ = some (.slice Aa z1.maps.length ca) ∧
                      w'.cell? ⟨bb, ob + j * 5, none⟩ = some (.int .i64 z2.id) ∧ w'.cell? ⟨bb, ob + j * 5 + 1, none⟩ = some (.int .i64 z2.tx) ∧ w'.cell? ⟨bb, ob + j * 5 + 2, none⟩ = some (.int .i64 z2.made) ∧ w'.cell? ⟨bb, ob + j * 5 + 3, none⟩ = some (.int .i64 z2.snapped) ∧ w'.cell? ⟨bb, ob + j * 5 + 4, none⟩ = some (.slice Ab z2.maps.length cb)) (go_keep)
                    (first | (go_at_call 34; refine HSM.out.mono ?_; rintro x w2 ⟨rfl, hB4⟩; have hKK : ∀ b o, b < wr.heap.size → w2.cell? ⟨b, o, none⟩ = wr.cell? ⟨b, o, none⟩ := fun b o hb => hB4.cell (p := ⟨b, o, none⟩) hb; have i1 := (hKK _ _ hp1r.lt).trans x4; have i2 := (hKK _ _ hp2r.lt).trans y4; have j0 := (hKK _ _ hba2).trans a0; have j1 := (hKK _ _ hba2).trans a1; have j2 := (hKK _ _ hba2).trans a2; have j3 := (hKK _ _ hba2).trans a3; have j4 := (hKK _ _ hba2).trans a4; have m0 := (hKK _ _ hbb2).trans c0; have m1 := (hKK _ _ hbb2).trans c1; have m2 := (hKK _ _ hbb2).trans c2; have m3 := (hKK _ _ hbb2).trans c3; have m4 := (hKK _ _ hbb2).trans c4))
                  go_wp2_with fail
                  go_roundw
                  case rel => exact ⟨j + 1, by go_num, by omega, HS2.out, hB.drew.trans (hB4.mono (by simpa using hsz))⟩
                  case measure => simp [intOf]; omega
                · have hne : d.devs ≠ e.devs := fun x => hx (by rw [x])
                  have HE := Lib.hid (decide_eq_false hne)
                  have hxb : decide (nth dev0 d.devs j = nth dev0 e.devs j) = false := decide_eq_false hx
                  rw [hxb] at HSM
                  clear hne HS hx hxb
                  generalize nth dev0 d.devs j = z1 at *
                  generalize nth dev0 e.devs j = z2 at *
                  go_wp2_with fail
                  go_region_held3 (fun w' => w'.cell? ⟨w.heap.size, 4, none⟩ = some (.slice (some ⟨ba, oa, none⟩) n c) ∧ w'.cell? ⟨w.heap.size + 1, 4, none⟩ = some (.slice (some ⟨bb, ob, none⟩) n k) ∧
                      w'.cell? ⟨ba, oa + j * 5, none⟩ = some (.int .i64 z1.id) ∧ w'.cell? ⟨ba, oa + j * 5 + 1, none⟩ = some (.int .i64 z1.tx) ∧ w'.cell? ⟨ba, oa + j * 5 + 2, none⟩ = some (.int .i64 z1.made) ∧ w'.cell? ⟨ba, oa + j * 5 + 3, none⟩ = some (.int .i64 z1.snapped) ∧ w'.cell? ⟨ba, oa + j * 5 + 4, none⟩ = some (.slice Aa z1.maps.length ca) ∧
                      w'.cell? ⟨bb, ob + j * 5, none⟩ = some (.int .i64 z2.id) ∧ w'.cell? ⟨bb, ob + j * 5 + 1, none⟩ = some (.int .i64 z2.tx) ∧ w'.cell? ⟨bb, ob + j * 5 + 2, none⟩ = some (.int .i64 z2.made) ∧ w'.cell? ⟨bb, ob + j * 5 + 3, none⟩ = some (.int .i64 z2.snapped) ∧ w'.cell? ⟨bb, ob + j * 5 + 4, none⟩ = some (.slice Ab z2.maps.length cb)) (go_keep)
                    (first | (go_at_call 34; refine HSM.out.mono ?_; rintro x w2 ⟨rfl, hB4⟩; have hKK : ∀ b o, b < wr.heap.size → w2.cell? ⟨b, o, none⟩ = wr.cell? ⟨b, o, none⟩ := fun b o hb => hB4.cell (p := ⟨b, o, none⟩) hb; have i1 := (hKK _ _ hp1r.lt).trans x4; have i2 := (hKK _ _ hp2r.lt).trans y4; have j0 := (hKK _ _ hba2).trans a0; have j1 := (hKK _ _ hba2).trans a1; have j2 := (hKK _ _ hba2).trans a2; have j3 := (hKK _ _ hba2).trans a3; have j4 := (hKK _ _ hba2).trans a4; have m0 := (hKK _ _ hbb2).trans c0; have m1 := (hKK _ _ hbb2).trans c1; have m2 := (hKK _ _ hbb2).trans c2; have m3 := (hKK _ _ hbb2).trans c3; have m4 := (hKK _ _ hbb2).trans c4))
                  go_wp2_with fail
                  refine bodyPost_ret (results_tmp rfl _ _ _) rfl ?_
                  exact ⟨by rw [HEQ.out, HE.out]; rfl, hBw.drew.trans (hB4.mono (by show w.heap.size ≤ wr.heap.size; omega))⟩
              · have he : d.devs = e.devs := eq_of_nth dev0 (by rw [HA.out, HL.out]) (fun m hm => HS.out m (by rw [HA.out] at hm; omega))
                have HE := Lib.hid (decide_eq_true he)
                clear he HS
                go_wp2_with fail
                go_ret
                exact ⟨by rw [HEQ.out, HE.out]; rfl, hBw⟩
          · have HE : Hid (decide (d = e) = false) := Lib.hid (decide_eq_false (fun x => g5 (by rw [x])))
            have b1 : (d.tx != e.tx) = false := by simp [g1]
            have b2 : (d.time != e.time) = false := by simp [g2]
            have b3 : (d.unit != e.unit) = false := by simp [g3]
            have b4 : (d.data != e.data) = false := by simp [g4]
            have b5 : ((d.devs.length : Int) != (e.devs.length : Int)) = true := by simp; omega
            clear HD g1 g2 g3 g4 g5
            go_enter Try.func19, Try.ntmps19
            go_wp2
            go_ret
            exact ⟨by rw [HE.out]; rfl, hB0⟩
        · have HE : Hid (decide (d = e) = false) := Lib.hid (by rw [HD.out]; simp [g4])
          have b1 : (d.tx != e.tx) = false := by simp [g1]
          have b2 : (d.time != e.time) = false := by simp [g2]
          have b3 : (d.unit != e.unit) = false := by simp [g3]
          have b4 : (d.data != e.data) = true := by simp [g4]
          clear HD g1 g2 g3 g4
          go_enter Try.func19, Try.ntmps19
          go_wp2
          go_ret
          exact ⟨by rw [HE.out]; rfl, hB0⟩
      · have HE : Hid (decide (d = e) = false) := Lib.hid (by rw [HD.out]; simp [g3])
        have b1 : (d.tx != e.tx) = false := by simp [g1]
        have b2 : (d.time != e.time) = false := by simp [g2]
        have b3 : (d.unit != e.unit) = true := by simp [g3]
        clear HD g1 g2 g3
        go_enter Try.func19, Try.ntmps19
        go_wp2
        go_ret
        exact ⟨by rw [HE.out]; rfl, hB0⟩
    · have HE : Hid (decide (d = e) = false) := Lib.hid (by rw [HD.out]; simp [g2])
      have b1 : (d.tx != e.tx) = false := by simp [g1]
      have b2 : (d.time != e.time) = true := by simp [g2]
      clear HD g1 g2
      go_enter Try.func19, Try.ntmps19
      go_wp2
      go_ret
      exact ⟨by rw [HE.out]; rfl, hB0⟩
  · have HE : Hid (decide (d = e) = false) := Lib.hid (by rw [HD.out]; simp [g1])
    have b1 : (d.tx != e.tx) = true := by simp [g1]
    clear HD g1
    go_enter Try.func19, Try.ntmps19
    go_wp2
    go_ret
    exact ⟨by rw [HE.out]; rfl, hB0⟩
end Go.Proofs.Ytolpgblegbahgaa

/- scantlingref35.Same at the same candidates: yes. Condition: no slice is longer than the reach. -/
namespace Go.Proofs.Ytolpgblegbahgaa
open Go.RowKit
attribute [local go_sem] Oper.semAt_some
set_option linter.unusedVariables false
set_option linter.unusedSimpArgs false

theorem Cells8.below {B b o : Nat} {w w' : World} {r : RC} (h : Cells8 w b o r) (hB : Below B w w') (hb : b < B) : Cells8 w' b o r := by
  obtain ⟨c0, c1, c2, c3, c4, c5, c6, c7⟩ := h
  exact ⟨(hB.cell (p := ⟨b, o, none⟩) hb).trans c0, (hB.cell (p := ⟨b, o + 1, none⟩) hb).trans c1, (hB.cell (p := ⟨b, o + 2, none⟩) hb).trans c2, (hB.cell (p := ⟨b, o + 3, none⟩) hb).trans c3, (hB.cell (p := ⟨b, o + 4, none⟩) hb).trans c4, (hB.cell (p := ⟨b, o + 5, none⟩) hb).trans c5, (hB.cell (p := ⟨b, o + 6, none⟩) hb).trans c6, (hB.cell (p := ⟨b, o + 7, none⟩) hb).trans c7⟩
set_option maxRecDepth 100000 in
set_option maxHeartbeats 3200000 in
theorem rsame35_eq (w : World) (S1 S2 : Nat → Prop) (v1 v2 : Value) (l : List Cand) (hS1 : ∀ b, S1 b → b < w.heap.size) (hS2 : ∀ b, S2 b → b < w.heap.size) (h1 : IsSl RCand 8 cand0 w S1 v1 l) (h2 : IsSl RCand 8 cand0 w S2 v2 l) (hl1 : l.length ≤ 1000000) (hfew : ∀ c ∈ l, c.few) :
    Calls Try.prog 12 #[v1, v2] w fun e w' => e = .returned (.bool true) ∧ Below w.heap.size w w' := by
  obtain ⟨A, c, rfl, hc, hr⟩ := h1
  obtain ⟨A2, c2, rfl, hc2, hr2⟩ := h2
  obtain ⟨raws, hm, hok, hcl⟩ := raws_of hr
  obtain ⟨raws2, hm2, hok2, hcl2⟩ := raws_of hr2
  have hx : ∀ k, k < l.length → ∃ (x : Cand) (a1 a2 : Option Addr) (n1 n2 : Nat), x.few ∧ nth rc0 raws k = ⟨x, a1, n1⟩ ∧ nth rc0 raws2 k = ⟨x, a2, n2⟩ ∧ (nth rc0 raws k).at w S1 ∧ (nth rc0 raws2 k).at w S2 := fun k hk => by
    have e1 := nth_c raws k
    have e2 := nth_c raws2 k
    rw [hm] at e1
    rw [hm2] at e2
    refine ⟨nth cand0 l k, (nth rc0 raws k).A, (nth rc0 raws2 k).A, (nth rc0 raws k).n, (nth rc0 raws2 k).n, hfew _ (nth_mem cand0 l k hk), ?_, ?_, hok _ (nth_mem_rc (by rw [← List.length_map (f := RC.c), hm]; exact hk)), hok2 _ (nth_mem_rc (by rw [← List.length_map (f := RC.c), hm2]; exact hk))⟩
    · rw [e1]
    · rw [e2]
  generalize hn : l.length = n at *
  have HX := Lib.hid hx
  have HCL := Lib.hid hcl
  have HCL2 := Lib.hid hcl2
  clear hn hm hm2 hok hok2 hcl hcl2 hr hr2 hx hfew
  go_enter Try.func12, Try.ntmps12
  go_wp2_with fail
  go_loopw [5] (fun vi wr => ∃ k : Nat, k ≤ n ∧ vi = .int .i64 k ∧ Below w.heap.size w wr) (fun vi _ => n - (intOf vi).toNat)
  case atStart => exact ⟨0, by omega, rfl, Below.refl _ _⟩
  case round =>
    obtain ⟨k, hk, rfl, hB⟩ := hrel
    have hz := hB.size
    by_cases hlt : k < n
    · obtain ⟨b, off, rfl, hb, hq⟩ := HCL.out (by omega)
      obtain ⟨b2, off2, rfl, hb2, hq2⟩ := HCL2.out (by omega)
      have hq := hq k hlt
      have hq2 := hq2 k hlt
      obtain ⟨x, a1, a2, n1, n2, hxf, e1, e2, t1, t2⟩ := HX.out k hlt
      rw [e1] at hq t1
      rw [e2] at hq2 t2
      have hb0 := hS1 b hb
      have hb20 := hS2 b2 hb2
      have HC8 : Hid (∀ w', Below wr.heap.size wr w' → Cells8 w' b (off + k * 8) ⟨x, a1, n1⟩ ∧ Cells8 w' b2 (off2 + k * 8) ⟨x, a2, n2⟩) := fun w' hB' => by
        have hh := hB.trans (hB'.mono hz)
        exact ⟨hq.below hh hb0, hq2.below hh hb20⟩
      have HSM : Hid (∀ w', Below wr.heap.size wr w' → _) := fun w' hB' => by
        have hh := hB.trans (hB'.mono hz)
        have hhz := hh.size
        exact rsamePool_any w' S1 S2 _ _ x.pool x.pool (fun b hb => by have := hS1 b hb; omega) (fun b hb => by have := hS2 b hb; omega) (IsCand.pool (c := x) (A := a1) (n := n1) (t1.below hh hS1).is) (IsCand.pool (c := x) (A := a2) (n := n2) (t2.below hh hS2).is) hxf.2.1 (fun j hj => by have := (hxf.1.dev hj).2.2.2.2.2; omega)
      clear hq hq2 e1 e2 t1 t2
      have hlz : (k : Int) < (n : Int) := by omega
      go_upto_region 6 with fail
      refine wp_region_till (T := fun _ => false) (S := fun w' => Below wr.heap.size wr w') (by kernel_rfl) (Below.refl wr.heap.size wr).drew (fun hHeld => ?_)
      obtain ⟨w101, hw0⟩ : ∃ x, wr.drew = x := ⟨_, rfl⟩
      rw [hw0] at hHeld ⊢
      have hkA : Below wr.heap.size wr w101 := hHeld
      clear hHeld hw0
      refine wpTill_put 0 17 (oi := _) (v := ?_) rfl rfl (by kernel_rfl) (by kernel_rfl) (by kernel_rfl) (by kernel_rfl) (fun _ _ _ h => h) (by rfl) hkA ?_ ?_
      rotate_left
      · (intro w2' hSw; go_simp; (try with_reducible rfl))
      (try simp only [Act.put, List.setIfInBounds_toArray, List.set_cons_zero, List.set_cons_succ])
      refine wpTill_put 1 18 (oi := _) (v := ?_) rfl rfl (by kernel_rfl) (by kernel_rfl) (by kernel_rfl) (by kernel_rfl) (fun _ _ _ h => h) (by rfl) hkA ?_ ?_
      rotate_left
      · (intro w2' hSw; go_simp; (try with_reducible rfl))
      (try simp only [Act.put, List.setIfInBounds_toArray, List.set_cons_zero, List.set_cons_succ])
      refine wpTill_put 2 19 (oi := _) (v := ?_) rfl rfl (by kernel_rfl) (by kernel_rfl) (by kernel_rfl) (by kernel_rfl) (fun _ _ _ h => h) (by rfl) hkA ?_ ?_
      rotate_left
      · (intro w2' hSw; go_simp; (try with_reducible rfl))
      (try simp only [Act.put, List.setIfInBounds_toArray, List.set_cons_zero, List.set_cons_succ])
      refine wpTill_put 3 20 (oi := _) (v := ?_) rfl rfl (by kernel_rfl) (by kernel_rfl) (by kernel_rfl) (by kernel_rfl) (fun _ _ _ h => h) (by rfl) hkA ?_ ?_
      rotate_left
      · (intro w2' hSw; go_simp; (try with_reducible rfl))
      (try simp only [Act.put, List.setIfInBounds_toArray, List.set_cons_zero, List.set_cons_succ])
      refine wpTill_put 4 21 (oi := _) (v := ?_) rfl rfl (by kernel_rfl) (by kernel_rfl) (by kernel_rfl) (by kernel_rfl) (fun _ _ _ h => h) (by rfl) hkA ?_ ?_
      rotate_left
      · (intro w2' hSw; obtain ⟨⟨c0, c1, c2, c3, c4, c5, c6, c7⟩, d0, d1, d2, d3, d4, d5, d6, d7⟩ := HC8.out _ hSw; go_simp; (try with_reducible rfl))
      (try simp only [Act.put, List.setIfInBounds_toArray, List.set_cons_zero, List.set_cons_succ])
      refine wpTill_put 5 22 (oi := _) (v := ?_) rfl rfl (by kernel_rfl) (by kernel_rfl) (by kernel_rfl) (by kernel_rfl) (fun _ _ _ h => h) (by rfl) hkA ?_ ?_
      rotate_left
      · (intro w2' hSw; go_simp; (try with_reducible rfl))
      (try simp only [Act.put, List.setIfInBounds_toArray, List.set_cons_zero, List.set_cons_succ])
      refine wpTill_put 6 23 (oi := _) (v := ?_) rfl rfl (by kernel_rfl) (by kernel_rfl) (by kernel_rfl) (by kernel_rfl) (fun _ _ _ h => h) (by rfl) hkA ?_ ?_
      rotate_left
      · (intro w2' hSw; go_simp; (try with_reducible rfl))
      (try simp only [Act.put, List.setIfInBounds_toArray, List.set_cons_zero, List.set_cons_succ])
      refine wpTill_put 7 24 (oi := _) (v := ?_) rfl rfl (by kernel_rfl) (by kernel_rfl) (by kernel_rfl) (by kernel_rfl) (fun _ _ _ h => h) (by rfl) hkA ?_ ?_
      rotate_left
      · (intro w2' hSw; go_simp; (try with_reducible rfl))
      (try simp only [Act.put, List.setIfInBounds_toArray, List.set_cons_zero, List.set_cons_succ])
      refine wpTill_put 8 25 (oi := _) (v := ?_) rfl rfl (by kernel_rfl) (by kernel_rfl) (by kernel_rfl) (by kernel_rfl) (fun _ _ _ h => h) (by rfl) hkA ?_ ?_
      rotate_left
      · (intro w2' hSw; go_simp; (try with_reducible rfl))
      (try simp only [Act.put, List.setIfInBounds_toArray, List.set_cons_zero, List.set_cons_succ])
      refine wpTill_put 9 26 (oi := _) (v := ?_) rfl rfl (by kernel_rfl) (by kernel_rfl) (by kernel_rfl) (by kernel_rfl) (fun _ _ _ h => h) (by rfl) hkA ?_ ?_
      rotate_left
      · (intro w2' hSw; obtain ⟨⟨c0, c1, c2, c3, c4, c5, c6, c7⟩, d0, d1, d2, d3, d4, d5, d6, d7⟩ := HC8.out _ hSw; go_simp; (try with_reducible rfl))
      (try simp only [Act.put, List.setIfInBounds_toArray, List.set_cons_zero, List.set_cons_succ])
      refine wpTill_put 10 27 (oi := _) (v := ?_) rfl rfl (by kernel_rfl) (by kernel_rfl) (by kernel_rfl) (by kernel_rfl) (fun _ _ _ h => h) (by rfl) hkA ?_ ?_
      rotate_left
      · (intro w2' hSw; go_simp; (try with_reducible rfl))
      (try simp only [Act.put, List.setIfInBounds_toArray, List.set_cons_zero, List.set_cons_succ])
      refine wpTill_put 11 28 (oi := _) (v := ?_) rfl rfl (by kernel_rfl) (by kernel_rfl) (by kernel_rfl) (by kernel_rfl) (fun _ _ _ h => h) (by rfl) hkA ?_ ?_
      rotate_left
      · (intro w2' hSw; go_simp; (try with_reducible rfl))
      (try simp only [Act.put, List.setIfInBounds_toArray, List.set_cons_zero, List.set_cons_succ])
      refine wpTill_put 12 29 (oi := _) (v := ?_) rfl rfl (by kernel_rfl) (by kernel_rfl) (by kernel_rfl) (by kernel_rfl) (fun _ _ _ h => h) (by rfl) hkA ?_ ?_
      rotate_left
      · (intro w2' hSw; go_simp; (try with_reducible rfl))
      (try simp only [Act.put, List.setIfInBounds_toArray, List.set_cons_zero, List.set_cons_succ])
      refine wpTill_put 13 30 (oi := _) (v := ?_) rfl rfl (by kernel_rfl) (by kernel_rfl) (by kernel_rfl) (by kernel_rfl) (fun _ _ _ h => h) (by rfl) hkA ?_ ?_
      rotate_left
      · (intro w2' hSw; go_simp; (try with_reducible rfl))
      (try simp only [Act.put, List.setIfInBounds_toArray, List.set_cons_zero, List.set_cons_succ])
      refine wpTill_put 14 31 (oi := _) (v := ?_) rfl rfl (by kernel_rfl) (by kernel_rfl) (by kernel_rfl) (by kernel_rfl) (fun _ _ _ h => h) (by rfl) hkA ?_ ?_
      rotate_left
      · (intro w2' hSw; go_simp; (try with_reducible rfl))
      (try simp only [Act.put, List.setIfInBounds_toArray, List.set_cons_zero, List.set_cons_succ])
      refine wpTill_put 15 32 (oi := _) (v := ?_) rfl rfl (by kernel_rfl) (by kernel_rfl) (by kernel_rfl) (by kernel_rfl) (fun _ _ _ h => h) (by rfl) hkA ?_ ?_
      rotate_left
      · (intro w2' hSw; go_simp; (try with_reducible rfl))
      (try simp only [Act.put, List.setIfInBounds_toArray, List.set_cons_zero, List.set_cons_succ])
      refine wpTill_put 16 33 (oi := _) (v := ?_) rfl rfl (by kernel_rfl) (by kernel_rfl) (by kernel_rfl) (by kernel_rfl) (fun _ _ _ h => h) (by rfl) hkA ?_ ?_
      rotate_left
      · (intro w2' hSw; obtain ⟨⟨c0, c1, c2, c3, c4, c5, c6, c7⟩, d0, d1, d2, d3, d4, d5, d6, d7⟩ := HC8.out _ hSw; go_simp; (try with_reducible rfl))
      (try simp only [Act.put, List.setIfInBounds_toArray, List.set_cons_zero, List.set_cons_succ])
      refine wpTill_put 17 34 (oi := _) (v := ?_) rfl rfl (by kernel_rfl) (by kernel_rfl) (by kernel_rfl) (by kernel_rfl) (fun _ _ _ h => h) (by rfl) hkA ?_ ?_
      rotate_left
      · (intro w2' hSw; go_simp; (try with_reducible rfl))
      (try simp only [Act.put, List.setIfInBounds_toArray, List.set_cons_zero, List.set_cons_succ])
      refine wpTill_put 18 35 (oi := _) (v := ?_) rfl rfl (by kernel_rfl) (by kernel_rfl) (by kernel_rfl) (by kernel_rfl) (fun _ _ _ h => h) (by rfl) hkA ?_ ?_
      rotate_left
      · (intro w2' hSw; go_simp; (try with_reducible rfl))
      (try simp only [Act.put, List.setIfInBounds_toArray, List.set_cons_zero, List.set_cons_succ])
      refine wpTill_put 19 36 (oi := _) (v := ?_) rfl rfl (by kernel_rfl) (by kernel_rfl) (by kernel_rfl) (by kernel_rfl) (fun _ _ _ h => h) (by rfl) hkA ?_ ?_
      rotate_left
      · (intro w2' hSw; go_simp; (try with_reducible rfl))
      (try simp only [Act.put, List.setIfInBounds_toArray, List.set_cons_zero, List.set_cons_succ])
      refine wpTill_put 20 37 (oi := _) (v := ?_) rfl rfl (by kernel_rfl) (by kernel_rfl) (by kernel_rfl) (by kernel_rfl) (fun _ _ _ h => h) (by rfl) hkA ?_ ?_
      rotate_left
      · (intro w2' hSw; go_simp; (try with_reducible rfl))
      (try simp only [Act.put, List.setIfInBounds_toArray, List.set_cons_zero, List.set_cons_succ])
      refine wpTill_put 21 38 (oi := _) (v := ?_) rfl rfl (by kernel_rfl) (by kernel_rfl) (by kernel_rfl) (by kernel_rfl) (fun _ _ _ h => h) (by rfl) hkA ?_ ?_
      rotate_left
      · (intro w2' hSw; obtain ⟨⟨c0, c1, c2, c3, c4, c5, c6, c7⟩, d0, d1, d2, d3, d4, d5, d6, d7⟩ := HC8.out _ hSw; go_simp; (try with_reducible rfl))
      (try simp only [Act.put, List.setIfInBounds_toArray, List.set_cons_zero, List.set_cons_succ])
      refine wpTill_put 22 39 (oi := _) (v := ?_) rfl rfl (by kernel_rfl) (by kernel_rfl) (by kernel_rfl) (by kernel_rfl) (fun _ _ _ h => h) (by rfl) hkA ?_ ?_
      rotate_left
      · (intro w2' hSw; go_simp; (try with_reducible rfl))
      (try simp only [Act.put, List.setIfInBounds_toArray, List.set_cons_zero, List.set_cons_succ])
      refine wpTill_put 23 40 (oi := _) (v := ?_) rfl rfl (by kernel_rfl) (by kernel_rfl) (by kernel_rfl) (by kernel_rfl) (fun _ _ _ h => h) (by rfl) hkA ?_ ?_
      rotate_left
      · (intro w2' hSw; go_simp; (try with_reducible rfl))
      (try simp only [Act.put, List.setIfInBounds_toArray, List.set_cons_zero, List.set_cons_succ])
      refine wpTill_put 24 41 (oi := _) (v := ?_) rfl rfl (by kernel_rfl) (by kernel_rfl) (by kernel_rfl) (by kernel_rfl) (fun _ _ _ h => h) (by rfl) hkA ?_ ?_
      rotate_left
      · (intro w2' hSw; go_simp; (try with_reducible rfl))
      (try simp only [Act.put, List.setIfInBounds_toArray, List.set_cons_zero, List.set_cons_succ])
      refine wpTill_put 25 42 (oi := _) (v := ?_) rfl rfl (by kernel_rfl) (by kernel_rfl) (by kernel_rfl) (by kernel_rfl) (fun _ _ _ h => h) (by rfl) hkA ?_ ?_
      rotate_left
      · (intro w2' hSw; go_simp; (try with_reducible rfl))
      (try simp only [Act.put, List.setIfInBounds_toArray, List.set_cons_zero, List.set_cons_succ])
      refine wpTill_put 26 43 (oi := _) (v := ?_) rfl rfl (by kernel_rfl) (by kernel_rfl) (by kernel_rfl) (by kernel_rfl) (fun _ _ _ h => h) (by rfl) hkA ?_ ?_
      rotate_left
      · (intro w2' hSw; go_simp; (try with_reducible rfl))
      (try simp only [Act.put, List.setIfInBounds_toArray, List.set_cons_zero, List.set_cons_succ])
      refine wpTill_put 27 44 (oi := _) (v := ?_) rfl rfl (by kernel_rfl) (by kernel_rfl) (by kernel_rfl) (by kernel_rfl) (fun _ _ _ h => h) (by rfl) hkA ?_ ?_
      rotate_left
      · (intro w2' hSw; go_simp; (try with_reducible rfl))
      (try simp only [Act.put, List.setIfInBounds_toArray, List.set_cons_zero, List.set_cons_succ])
      refine wpTill_put 28 45 (oi := _) (v := ?_) rfl rfl (by kernel_rfl) (by kernel_rfl) (by kernel_rfl) (by kernel_rfl) (fun _ _ _ h => h) (by rfl) hkA ?_ ?_
      rotate_left
      · (intro w2' hSw; go_simp; (try with_reducible rfl))
      (try simp only [Act.put, List.setIfInBounds_toArray, List.set_cons_zero, List.set_cons_succ])
      refine wpTill_put 29 46 (oi := _) (v := ?_) rfl rfl (by kernel_rfl) (by kernel_rfl) (by kernel_rfl) (by kernel_rfl) (fun _ _ _ h => h) (by rfl) hkA ?_ ?_
      rotate_left
      · (intro w2' hSw; obtain ⟨⟨c0, c1, c2, c3, c4, c5, c6, c7⟩, d0, d1, d2, d3, d4, d5, d6, d7⟩ := HC8.out _ hSw; go_simp; (try with_reducible rfl))
      (try simp only [Act.put, List.setIfInBounds_toArray, List.set_cons_zero, List.set_cons_succ])
      refine wpTill_put 30 47 (oi := _) (v := ?_) rfl rfl (by kernel_rfl) (by kernel_rfl) (by kernel_rfl) (by kernel_rfl) (fun _ _ _ h => h) (by rfl) hkA ?_ ?_
      rotate_left
      · (intro w2' hSw; go_simp; (try with_reducible rfl))
      (try simp only [Act.put, List.setIfInBounds_toArray, List.set_cons_zero, List.set_cons_succ])
      refine wpTill_put 31 48 (oi := _) (v := ?_) rfl rfl (by kernel_rfl) (by kernel_rfl) (by kernel_rfl) (by kernel_rfl) (fun _ _ _ h => h) (by rfl) hkA ?_ ?_
      rotate_left
      · (intro w2' hSw; go_simp; (try with_reducible rfl))
      (try simp only [Act.put, List.setIfInBounds_toArray, List.set_cons_zero, List.set_cons_succ])
      refine wpTill_put 32 49 (oi := _) (v := ?_) rfl rfl (by kernel_rfl) (by kernel_rfl) (by kernel_rfl) (by kernel_rfl) (fun _ _ _ h => h) (by rfl) hkA ?_ ?_
      rotate_left
      · (intro w2' hSw; go_simp; (try with_reducible rfl))
      (try simp only [Act.put, List.setIfInBounds_toArray, List.set_cons_zero, List.set_cons_succ])
      refine wpTill_put 33 50 (oi := _) (v := ?_) rfl rfl (by kernel_rfl) (by kernel_rfl) (by kernel_rfl) (by kernel_rfl) (fun _ _ _ h => h) (by rfl) hkA ?_ ?_
      rotate_left
      · (intro w2' hSw; go_simp; (try with_reducible rfl))
      (try simp only [Act.put, List.setIfInBounds_toArray, List.set_cons_zero, List.set_cons_succ])
      refine wpTill_put 34 51 (oi := _) (v := ?_) rfl rfl (by kernel_rfl) (by kernel_rfl) (by kernel_rfl) (by kernel_rfl) (fun _ _ _ h => h) (by rfl) hkA ?_ ?_
      rotate_left
      · (intro w2' hSw; obtain ⟨⟨c0, c1, c2, c3, c4, c5, c6, c7⟩, d0, d1, d2, d3, d4, d5, d6, d7⟩ := HC8.out _ hSw; go_simp; (try with_reducible rfl))
      (try simp only [Act.put, List.setIfInBounds_toArray, List.set_cons_zero, List.set_cons_succ])
      refine wpTill_put 35 52 (oi := _) (v := ?_) rfl rfl (by kernel_rfl) (by kernel_rfl) (by kernel_rfl) (by kernel_rfl) (fun _ _ _ h => h) (by rfl) hkA ?_ ?_
      rotate_left
      · (intro w2' hSw; go_simp; (try with_reducible rfl))
      (try simp only [Act.put, List.setIfInBounds_toArray, List.set_cons_zero, List.set_cons_succ])
      refine wpTill_put 36 53 (oi := _) (v := ?_) rfl rfl (by kernel_rfl) (by kernel_rfl) (by kernel_rfl) (by kernel_rfl) (fun _ _ _ h => h) (by rfl) hkA ?_ ?_
      rotate_left
      · (intro w2' hSw; go_simp; (try with_reducible rfl))
      (try simp only [Act.put, List.setIfInBounds_toArray, List.set_cons_zero, List.set_cons_succ])
      refine wpTill_put 37 54 (oi := _) (v := ?_) rfl rfl (by kernel_rfl) (by kernel_rfl) (by kernel_rfl) (by kernel_rfl) (fun _ _ _ h => h) (by rfl) hkA ?_ ?_
      rotate_left
      · (intro w2' hSw; go_simp; (try with_reducible rfl))
      (try simp only [Act.put, List.setIfInBounds_toArray, List.set_cons_zero, List.set_cons_succ])
      refine wpTill_put 38 55 (oi := _) (v := ?_) rfl rfl (by kernel_rfl) (by kernel_rfl) (by kernel_rfl) (by kernel_rfl) (fun _ _ _ h => h) (by rfl) hkA ?_ ?_
      rotate_left
      · (intro w2' hSw; go_simp; (try with_reducible rfl))
      (try simp only [Act.put, List.setIfInBounds_toArray, List.set_cons_zero, List.set_cons_succ])
      refine wpTill_put 39 56 (oi := _) (v := ?_) rfl rfl (by kernel_rfl) (by kernel_rfl) (by kernel_rfl) (by kernel_rfl) (fun _ _ _ h => h) (by rfl) hkA ?_ ?_
      rotate_left
      · (intro w2' hSw; go_simp; (try with_reducible rfl))
      (try simp only [Act.put, List.setIfInBounds_toArray, List.set_cons_zero, List.set_cons_succ])
      refine wpTill_put 40 57 (oi := _) (v := ?_) rfl rfl (by kernel_rfl) (by kernel_rfl) (by kernel_rfl) (by kernel_rfl) (fun _ _ _ h => h) (by rfl) hkA ?_ ?_
      rotate_left
      · (intro w2' hSw; go_simp; (try with_reducible rfl))
      (try simp only [Act.put, List.setIfInBounds_toArray, List.set_cons_zero, List.set_cons_succ])
      refine wpTill_put 41 58 (oi := _) (v := ?_) rfl rfl (by kernel_rfl) (by kernel_rfl) (by kernel_rfl) (by kernel_rfl) (fun _ _ _ h => h) (by rfl) hkA ?_ ?_
      rotate_left
      · (intro w2' hSw; go_simp; (try with_reducible rfl))
      (try simp only [Act.put, List.setIfInBounds_toArray, List.set_cons_zero, List.set_cons_succ])
      refine wpTill_put 42 59 (oi := _) (v := ?_) rfl rfl (by kernel_rfl) (by kernel_rfl) (by kernel_rfl) (by kernel_rfl) (fun _ _ _ h => h) (by rfl) hkA ?_ ?_
      rotate_left
      · (intro w2' hSw; obtain ⟨⟨c0, c1, c2, c3, c4, c5, c6, c7⟩, d0, d1, d2, d3, d4, d5, d6, d7⟩ := HC8.out _ hSw; go_simp; (try with_reducible rfl))
      (try simp only [Act.put, List.setIfInBounds_toArray, List.set_cons_zero, List.set_cons_succ])
      refine wpTill_put 43 60 (oi := _) (v := ?_) rfl rfl (by kernel_rfl) (by kernel_rfl) (by kernel_rfl) (by kernel_rfl) (fun _ _ _ h => h) (by rfl) hkA ?_ ?_
      rotate_left
      · (intro w2' hSw; go_simp; (try with_reducible rfl))
      (try simp only [Act.put, List.setIfInBounds_toArray, List.set_cons_zero, List.set_cons_succ])
      refine wpTill_put 44 61 (oi := _) (v := ?_) rfl rfl (by kernel_rfl) (by kernel_rfl) (by kernel_rfl) (by kernel_rfl) (fun _ _ _ h => h) (by rfl) hkA ?_ ?_
      rotate_left
      · (intro w2' hSw; go_simp; (try with_reducible rfl))
      (try simp only [Act.put, List.setIfInBounds_toArray, List.set_cons_zero, List.set_cons_succ])
      refine wpTill_put 45 62 (oi := _) (v := ?_) rfl rfl (by kernel_rfl) (by kernel_rfl) (by kernel_rfl) (by kernel_rfl) (fun _ _ _ h => h) (by rfl) hkA ?_ ?_
      rotate_left
      · (intro w2' hSw; go_simp; (try with_reducible rfl))
      (try simp only [Act.put, List.setIfInBounds_toArray, List.set_cons_zero, List.set_cons_succ])
      refine wpTill_put 46 63 (oi := _) (v := ?_) rfl rfl (by kernel_rfl) (by kernel_rfl) (by kernel_rfl) (by kernel_rfl) (fun _ _ _ h => h) (by rfl) hkA ?_ ?_
      rotate_left
      · (intro w2' hSw; go_simp; (try with_reducible rfl))
      (try simp only [Act.put, List.setIfInBounds_toArray, List.set_cons_zero, List.set_cons_succ])
      refine wpTill_put 47 64 (oi := _) (v := ?_) rfl rfl (by kernel_rfl) (by kernel_rfl) (by kernel_rfl) (by kernel_rfl) (fun _ _ _ h => h) (by rfl) hkA ?_ ?_
      rotate_left
      · (intro w2' hSw; obtain ⟨⟨c0, c1, c2, c3, c4, c5, c6, c7⟩, d0, d1, d2, d3, d4, d5, d6, d7⟩ := HC8.out _ hSw; go_simp; (try with_reducible rfl))
      (try simp only [Act.put, List.setIfInBounds_toArray, List.set_cons_zero, List.set_cons_succ])
      refine wpTill_one 48 (o := _) (by kernel_rfl) rfl (fun K hK => ?_)
      go_simp
      refine (HSM.out _ hkA).mono ?_
      rintro e w102 ⟨rfl, hB5⟩
      rw [decide_eq_true (rfl : x.pool = x.pool)]
      have hkA := hkA.trans (hB5.mono hkA.size)
      refine hK.out _ _ (fun _ => hkA) (fun _ => ?_)
      clear hK K
      (try simp only [Act.put, List.setIfInBounds_toArray, List.set_cons_zero, List.set_cons_succ])
      refine wpTill_put 49 66 (oi := _) (v := ?_) rfl rfl (by kernel_rfl) (by kernel_rfl) (by kernel_rfl) (by kernel_rfl) (fun _ _ _ h => h) (by rfl) hkA ?_ ?_
      rotate_left
      · (intro w2' hSw; go_simp; (try with_reducible rfl))
      (try simp only [Act.put, List.setIfInBounds_toArray, List.set_cons_zero, List.set_cons_succ])
      refine wpTill_put 50 67 (oi := _) (v := ?_) rfl rfl (by kernel_rfl) (by kernel_rfl) (by kernel_rfl) (by kernel_rfl) (fun _ _ _ h => h) (by rfl) hkA ?_ ?_
      rotate_left
      · (intro w2' hSw; go_simp; (try with_reducible rfl))
      (try simp only [Act.put, List.setIfInBounds_toArray, List.set_cons_zero, List.set_cons_succ])
      refine wpTill_done (by kernel_rfl) ?_ _
      obtain ⟨wz, hwz⟩ : ∃ wz, w102 = wz := ⟨_, rfl⟩
      rw [hwz] at hkA ⊢
      clear hwz
      go_wp2_with fail
      go_roundw
      case rel => exact ⟨k + 1, by omega, by go_num, hB.trans (hkA.mono hz)⟩
      case measure => simp [intOf]; omega
    · obtain rfl : k = n := by omega
      go_wp2_with fail
      go_ret
      exact ⟨rfl, hB⟩
end Go.Proofs.Ytolpgblegbahgaa

/- The first of the sorted candidates is the best one. No condition. -/
namespace Go.Proofs.Ytolpgblegbahgaa
open Go.RowKit
section
variable {α : Type} (lt : α → α → Bool)
def minF (m : α) : List α → α
  | [] => m
  | x :: l => minF (if lt x m = true then x else m) l
theorem insR_past (x : α) : ∀ r : List α, (∀ y ∈ r, lt x y = true) → insR lt x r = r ++ [x]
  | [], _ => rfl
  | y :: r, h => by
    rw [insR, if_pos (h y List.mem_cons_self), insR_past x r (fun z hz => h z (List.mem_cons_of_mem _ hz))]
    rfl
theorem insR_stop (x m : α) (hm : lt x m = false) : ∀ r : List α, ∃ r', insR lt x (r ++ [m]) = r' ++ [m] ∧ ∀ y ∈ r', y = x ∨ y ∈ r
  | [] => ⟨[x], by rw [List.nil_append, insR, if_neg (by rw [hm]; simp)]; rfl, fun y hy => .inl (List.mem_singleton.1 hy)⟩
  | y :: r => by
    rw [List.cons_append, insR]
    by_cases h : lt x y = true
    · obtain ⟨r', e, hr⟩ := insR_stop x m hm r
      rw [if_pos h, e]
      refine ⟨y :: r', rfl, fun z hz => ?_⟩
      rcases List.mem_cons.1 hz with rfl | hz
      · exact .inr List.mem_cons_self
      · rcases hr z hz with h | h
        · exact .inl h
        · exact .inr (List.mem_cons_of_mem _ h)
    · rw [if_neg h]
      refine ⟨x :: y :: r, rfl, fun z hz => ?_⟩
      rcases List.mem_cons.1 hz with rfl | hz
      · exact .inl rfl
      · exact .inr hz
theorem insF_last (h1 : ∀ x, lt x x = false) (h2 : ∀ x y z, lt x y = true → lt y z = true → lt x z = true) (h3 : ∀ x y z, lt x y = false → lt y z = false → lt x z = false) :
    ∀ (l r : List α) (m : α), (∀ y ∈ r, lt y m = false) → ∃ r', insF lt (r ++ [m]) l = r' ++ [minF lt m l]
  | [], r, m, _ => ⟨r, rfl⟩
  | x :: l, r, m, hr => by
    rw [insF, minF]
    by_cases h : lt x m = true
    · rw [if_pos h]
      have hall : ∀ y ∈ r ++ [m], lt x y = true := fun y hy => by
        rcases List.mem_append.1 hy with hy | hy
        · cases hc : lt x y with
          | true => rfl
          | false => rw [h3 x y m hc (hr y hy)] at h; cases h
        · rw [List.mem_singleton.1 hy]; exact h
      rw [insR_past lt x _ hall]
      exact insF_last h1 h2 h3 l (r ++ [m]) x (fun y hy => by
        cases hc : lt y x with
        | false => rfl
        | true =>
          have := h2 y x y hc (hall y hy)
          rw [h1] at this
          cases this)
    · rw [if_neg h]
      have hm : lt x m = false := by cases hc : lt x m with
        | false => rfl
        | true => exact absurd hc h
      obtain ⟨r', e, hr'⟩ := insR_stop lt x m hm r
      rw [e]
      exact insF_last h1 h2 h3 l r' m (fun y hy => by
        rcases hr' y hy with rfl | h
        · exact hm
        · exact hr y h)
end
theorem minFrom_minF : ∀ (l : List Cand) (m : Cand), minFrom m l = minF ltC m l
  | [], m => rfl
  | x :: l, m => by
    rw [minFrom, minF, minFrom_minF l]
    congr 1
    by_cases h : cmpC x m < 0
    · rw [if_pos h, if_pos (by simp [ltC, h])]
    · rw [if_neg h, if_neg (by simp [ltC, h])]
theorem sort_head (l : List Cand) (hl : 0 < l.length) : (refS cand0 ltC [] l).take 1 = [minC l] := by
  cases l with
  | nil => simp at hl
  | cons x l =>
    have e := refS_eq cand0 ltC l [x]
    have e0 : refS cand0 ltC [] (x :: l) = refS cand0 ltC [x] l := rfl
    obtain ⟨r', hr⟩ := insF_last ltC (fun x => by simp [ltC, ahead_irrefl]) (fun x y z h1 h2 => by
      simp only [ltC, decide_eq_true_eq] at *
      exact ahead_trans h1 h2) (fun x y z h1 h2 => by
      simp only [ltC, decide_eq_false_iff_not] at *
      rw [cmpC_lex] at *
      exact lexC_ntrans _ _ _ (keyC_len _ _) (keyC_len _ _) h1 h2) l [] x (fun y hy => by simp at hy)
    rw [List.nil_append] at hr
    rw [e0, show [x] = [x].reverse from rfl, e, hr, List.reverse_append]
    show [minF ltC x l] = _
    rw [← minFrom_minF]
    rfl
end Go.Proofs.Ytolpgblegbahgaa

/- scantlinglaw36.lives says yes. -/
namespace Go.Proofs.Ytolpgblegbahgaa
open Go.RowKit
attribute [local go_sem] Oper.semAt_some

/-- A block of candidates as a slice. -/
theorem cands_block {w : World} {S : Nat → Prop} {b c : Nat} {cs : Array Value} {t : TypeId} {fr : Nat × Nat} {l : List Cand} (hg : w.heap[b]? = some (.cells cs t fr)) (hb : S b) (hc : l.length ≤ c)
    (hcs : ∀ k, k < l.length → ∃ A n, (∀ j, j < 8 → cs[k * 8 + j]? = ((nth cand0 l k).cells A n)[j]?) ∧ (nth cand0 l k).pool.devs.length ≤ n ∧ DevRow w S A (nth cand0 l k).pool.devs) :
    IsSl RCand 8 cand0 w S (.slice (some ⟨b, 0, none⟩) l.length c) l := by
  refine ⟨_, _, rfl, hc, fun _ => ⟨b, 0, rfl, hb, fun k hk => ?_⟩⟩
  obtain ⟨A, n, h1, h2, h3⟩ := hcs k hk
  refine ⟨_, rfl, ⟨A, n, rfl, h2, h3⟩, fun j u hu => ?_⟩
  have hj : j < 8 := (List.getElem?_eq_some_iff.1 hu).1
  rw [cell_of_row w b _ cs t fr hg]
  have := h1 j hj
  rw [show 0 + k * 8 + j = k * 8 + j by omega, this]
  simpa using hu
def exP : Pool := ⟨0, 0, 0, 0, []⟩
def exC1 : Cand := ⟨false, 3, 4, exP⟩
def exC2 : Cand := ⟨false, 2, 9, exP⟩
theorem exP_few (b : Bool) (x y : Int) : Cand.few ⟨b, x, y, exP⟩ := ⟨⟨by simp [In64, exP], by simp [In64, exP], by simp [In64, exP], by simp [In64, exP], by simp [exP], by simp [exP]⟩, by simp [exP], by simp [exP, Pool.count, countL]⟩
theorem ex_lt : cmpC exC2 exC1 < 0 := by simp [cmpC, cmpL, orI, exC1, exC2, cmpI, firstI]
theorem ex_min : minC [exC1, exC2] = exC2 := by simp only [minC, minFrom]; rw [if_pos ex_lt]
set_option maxRecDepth 100000 in
set_option maxHeartbeats 1600000 in
theorem lives36 (w : World) : Calls Try.prog 5 #[] w fun e w' => e = .returned (.bool true) ∧ Below w.heap.size w w' := by
  have hB2 : Below w.heap.size w ((w.alloc (candBox exC1 none 0)).alloc (candBox exC2 none 0)) := ((Below.refl _ _).alloc (Nat.le_refl _) _).alloc (by simp) _
  have hc1 : CBox ((w.alloc (candBox exC1 none 0)).alloc (candBox exC2 none 0)) w.heap.size exC1 none 0 := (CBox.new w exC1 none 0).below (Below.alloc (Below.refl _ _) (Nat.le_refl _) _) (by simp)
  have hc2 : CBox ((w.alloc (candBox exC1 none 0)).alloc (candBox exC2 none 0)) (w.heap.size + 1) exC2 none 0 := by
    have := CBox.new (w.alloc (candBox exC1 none 0)) exC2 none 0
    simpa only [World.size_alloc] using this
  have hB3 := hB2.alloc hB2.size (.cells #[.bool false, .int .i64 3, .int .i64 4, .int .i64 0, .int .i64 0, .int .i64 0, .int .i64 0, .slice none 0 0, .bool false, .int .i64 2, .int .i64 9, .int .i64 0, .int .i64 0, .int .i64 0, .int .i64 0, .slice none 0 0] 33)
  have hk3 : Below ((w.alloc (candBox exC1 none 0)).alloc (candBox exC2 none 0)).heap.size ((w.alloc (candBox exC1 none 0)).alloc (candBox exC2 none 0)) (((w.alloc (candBox exC1 none 0)).alloc (candBox exC2 none 0)).alloc (.cells #[.bool false, .int .i64 3, .int .i64 4, .int .i64 0, .int .i64 0, .int .i64 0, .int .i64 0, .slice none 0 0, .bool false, .int .i64 2, .int .i64 9, .int .i64 0, .int .i64 0, .int .i64 0, .int .i64 0, .slice none 0 0] 33)) := (Below.refl _ _).alloc (Nat.le_refl _) _
  have hr3 := heap_alloc_new ((w.alloc (candBox exC1 none 0)).alloc (candBox exC2 none 0)) (.cells #[.bool false, .int .i64 3, .int .i64 4, .int .i64 0, .int .i64 0, .int .i64 0, .int .i64 0, .slice none 0 0, .bool false, .int .i64 2, .int .i64 9, .int .i64 0, .int .i64 0, .int .i64 0, .int .i64 0, .slice none 0 0] 33)
  have hsl : IsSl RCand 8 cand0 (((w.alloc (candBox exC1 none 0)).alloc (candBox exC2 none 0)).alloc (.cells #[.bool false, .int .i64 3, .int .i64 4, .int .i64 0, .int .i64 0, .int .i64 0, .int .i64 0, .slice none 0 0, .bool false, .int .i64 2, .int .i64 9, .int .i64 0, .int .i64 0, .int .i64 0, .int .i64 0, .slice none 0 0] 33)) (fun b => b = w.heap.size + 2) (.slice (some ⟨w.heap.size + 2, 0, none⟩) 2 2) [exC1, exC2] := by
    have hr3' := hr3
    simp only [World.size_alloc] at hr3'
    refine cands_block (l := [exC1, exC2]) hr3' rfl (by simp) (fun k hk => ?_)
    have hk2 : k < 2 := hk
    rcases (by omega : k = 0 ∨ k = 1) with rfl | rfl
    · exact ⟨none, 0, fun j hj => by rcases (by omega : j = 0 ∨ j = 1 ∨ j = 2 ∨ j = 3 ∨ j = 4 ∨ j = 5 ∨ j = 6 ∨ j = 7) with rfl | rfl | rfl | rfl | rfl | rfl | rfl | rfl <;> rfl, by simp [nth, exC1, exP], RowOf.nil_⟩
    · exact ⟨none, 0, fun j hj => by rcases (by omega : j = 0 ∨ j = 1 ∨ j = 2 ∨ j = 3 ∨ j = 4 ∨ j = 5 ∨ j = 6 ∨ j = 7) with rfl | rfl | rfl | rfl | rfl | rfl | rfl | rfl <;> rfl, by simp [nth, exC2, exP], RowOf.nil_⟩
  have hbest := best_any (((w.alloc (candBox exC1 none 0)).alloc (candBox exC2 none 0)).alloc (.cells #[.bool false, .int .i64 3, .int .i64 4, .int .i64 0, .int .i64 0, .int .i64 0, .int .i64 0, .slice none 0 0, .bool false, .int .i64 2, .int .i64 9, .int .i64 0, .int .i64 0, .int .i64 0, .int .i64 0, .slice none 0 0] 33)) (fun b => b = w.heap.size + 2) _ [exC1, exC2] (fun b hb => by subst hb; simp) hsl (by simp) (by simp) (fun k hk => by
    have hk2 : k < 2 := hk
    rcases (by omega : k = 0 ∨ k = 1) with rfl | rfl
    · exact exP_few _ _ _
    · exact exP_few _ _ _) (fun c hc k hk => by
    simp at hc
    rcases hc with rfl | rfl
    · simp [exC1, exP] at hk
    · simp [exC2, exP] at hk)
  rw [ex_min] at hbest
  have hbf21 := fun w' => before_any w' (fun _ => False) (fun _ => False) (candV exC2 none 0) (candV exC1 none 0) exC2 exC1 (fun _ h => h.elim) (fun _ h => h.elim) ⟨none, 0, rfl, by simp [exC2, exP], RowOf.nil_⟩ ⟨none, 0, rfl, by simp [exC1, exP], RowOf.nil_⟩ (exP_few _ _ _) (exP_few _ _ _)
  have hbf12 := fun w' => before_any w' (fun _ => False) (fun _ => False) (candV exC1 none 0) (candV exC2 none 0) exC1 exC2 (fun _ h => h.elim) (fun _ h => h.elim) ⟨none, 0, rfl, by simp [exC1, exP], RowOf.nil_⟩ ⟨none, 0, rfl, by simp [exC2, exP], RowOf.nil_⟩ (exP_few _ _ _) (exP_few _ _ _)
  rw [decide_eq_true ex_lt] at hbf21
  rw [decide_eq_false (ahead_asymm ex_lt)] at hbf12
  dsimp only [candBox, candV, Cand.cells, exC1, exC2, exP, List.length_nil] at hB2 hc1 hc2 hB3 hk3 hbest hbf21 hbf12
  have HBEST := Lib.hid hbest
  have H21 := Lib.hid hbf21
  have H12 := Lib.hid hbf12
  clear hbest hbf21 hbf12 hsl hr3
  have hd1 := hc1.below hk3 (by simp; omega)
  have hd2 := hc2.below hk3 (by simp)
  go_enter Try.func5, Try.ntmps5
  go_wp2_with (first
    | (go_at_call 10; refine HBEST.out.mono ?_; rintro e w4 ⟨v4, rfl, ⟨A4, n4, rfl, hn4, hr4⟩, hB4⟩; have he1 := hd1.below hB4 (by simp <;> omega); have he2 := hd2.below hB4 (by simp <;> omega); have hk4 := hB3.trans (hB4.mono hB3.size); have hs4 := hB4.size; obtain ⟨x0, x1, x2, x3, x4, x5, x6, x7⟩ := he1.cells; obtain ⟨y0, y1, y2, y3, y4, y5, y6, y7⟩ := he2.cells; have hl1 : w.heap.size < w4.heap.size := (by simp at hs4; omega); have hl2 : w.heap.size + 1 < w4.heap.size := (by simp at hs4; omega); dsimp only [List.length_nil])
    | (go_at_call 8; refine (H12.out _).mono ?_; rintro e w7 ⟨rfl, hB7⟩; have hk7 := hk6.trans (hB7.mono hk6.size))
    | (go_at_call 8; refine (H21.out _).mono ?_; rintro e w6 ⟨rfl, hB6⟩; have hk6 := (hk4.alloc hk4.size (candBox exC2 A4 n4)).trans (hB6.mono (hk4.alloc hk4.size (candBox exC2 A4 n4)).size); have hf1 := (he1.below (Below.alloc (Below.refl _ _) (Nat.le_refl _) (candBox exC2 A4 n4)) he1.lt).below hB6 (by simp <;> omega); have hf2 := (he2.below (Below.alloc (Below.refl _ _) (Nat.le_refl _) (candBox exC2 A4 n4)) he2.lt).below hB6 (by simp <;> omega); clear x0 x1 x2 x3 x4 x5 x6 x7 y0 y1 y2 y3 y4 y5 y6 y7; obtain ⟨x0, x1, x2, x3, x4, x5, x6, x7⟩ := hf1.cells; obtain ⟨y0, y1, y2, y3, y4, y5, y6, y7⟩ := hf2.cells; dsimp only [List.length_nil] at x7 y7))
  go_ret
  exact ⟨rfl, hk7⟩
end Go.Proofs.Ytolpgblegbahgaa

/- scantlinglaw36.RankSorts says yes of any candidates. Condition: the numbers fit into Go's int, and no slice is longer than the reach. -/
namespace Go.Proofs.Ytolpgblegbahgaa
open Go.RowKit
attribute [local go_sem] Oper.semAt_some
set_option linter.unusedVariables false
set_option linter.unusedSimpArgs false

set_option maxRecDepth 100000 in
set_option maxHeartbeats 6400000 in
theorem rankSorts_nil (w : World) (A : Option Addr) (c : Nat) (hfew : Calls Try.prog 4 #[.slice A 0 c] w fun e w' => e = .returned (.bool true) ∧ Below w.heap.size w w') :
    Calls Try.prog 3 #[.slice A 0 c] w fun e w' => e = .returned (.bool true) ∧ Below w.heap.size w w' := by
  have HFEW := Lib.hid hfew
  have HOWN : Hid (∀ w', Calls Try.prog 6 #[.slice A 0 c] w' _) := fun w' => own35_any w' (fun _ => False) _ [] (fun b h => h.elim) ⟨A, c, rfl, Nat.zero_le _, fun h => by simp at h⟩ (by simp)
  have HSRT : Hid (∀ w' (A' : Option Addr) (c' : Nat), Calls Try.prog 7 #[.slice A' 0 c'] w' _) := fun w' A' c' => rsort_any w' (fun _ => False) _ [] (fun b h => h.elim) ⟨A', c', rfl, Nat.zero_le _, fun h => by simp at h⟩ (by simp) (by simp)
  have HBN := Lib.hid (fun w' => best_nil w' A c)
  dsimp only [zeroC] at HBN
  clear hfew
  go_enter Try.func3, Try.ntmps3
  go_wp2_with (first
    | (go_at_call 4; refine HFEW.out.mono ?_; rintro e w2 ⟨rfl, hB2⟩)
    | (go_at_call 6; refine (HOWN.out _).mono ?_; rintro e w3 ⟨v3, rfl, ⟨A3, c3, rfl, _, _⟩, hB3⟩; have hk3 := hB2.trans (hB3.mono hB2.size); dsimp only [List.length_nil])
    | (go_at_call 7; refine (HSRT.out _ _ _).mono ?_; rintro e w4 ⟨v4, rfl, _, hB4⟩; have hk4 := hk3.trans (hB4.mono hk3.size)))
  go_loopw [5] (fun i wr => i = .int .i64 0 ∧ Below w.heap.size w wr) (fun _ _ => 0)
  case atStart => exact ⟨rfl, hk4⟩
  case round =>
    obtain ⟨rfl, hB⟩ := hrel
    go_wp2_with (first
      | (go_at_call 10; refine (HBN.out _).mono ?_; rintro e w5 ⟨rfl, hB5⟩; have hk5 := hB.trans (hB5.mono hB.size); have hk6 := hk5.alloc hk5.size (.cells zeroC 33))
      | (go_at_call 11; refine (ranksort_nil _ A c).mono ?_; rintro e w7 ⟨rfl, hB7⟩; have hk7 := hk6.trans (hB7.mono hk6.size))
      | (go_at_call 5; refine (lives36 _).mono ?_; rintro e w9 ⟨rfl, hB9⟩; have hk9 := hk7.trans (hB9.mono hk7.size)))
    go_ret
    exact ⟨rfl, hk9⟩
set_option maxRecDepth 100000 in
set_option maxHeartbeats 12800000 in
theorem rankSorts_some (w : World) (A : Option Addr) (c : Nat) (l : List Cand) (h : IsSl RCand 8 cand0 w (Lt w.heap.size) (.slice A l.length c) l) (hl0 : 0 < l.length) (hl1 : l.length ≤ 30) (hfw : ∀ c ∈ l, c.few) (hmk : ∀ c ∈ l, ∀ k, k < c.pool.devs.length → (nth dev0 c.pool.devs k).maps.length ≤ 2199023255552)
    (hfew : Calls Try.prog 4 #[.slice A l.length c] w fun e w' => e = .returned (.bool true) ∧ Below w.heap.size w w') :
    Calls Try.prog 3 #[.slice A l.length c] w fun e w' => e = .returned (.bool true) ∧ Below w.heap.size w w' := by
  have hS : ∀ b, Lt w.heap.size b → b < w.heap.size := fun _ h => h
  have HFEW := Lib.hid hfew
  obtain ⟨W, hW⟩ : ∃ W, refS cand0 ltC [] l = W := ⟨_, rfl⟩
  have hWl : W.length = l.length := by rw [← hW, refS_length]; simp
  have hWm : ∀ x ∈ W, x ∈ l := by
    rw [← hW]
    have h0 : ∀ (r o : List Cand), ∀ x ∈ insF ltC o r, x ∈ o ∨ x ∈ r := by
      intro r
      induction r with
      | nil => intro o x hx; exact .inl hx
      | cons y r ih =>
        intro o x hx
        rcases ih _ x hx with h | h
        · have h1 : ∀ (o : List Cand), x ∈ insR ltC y o → x = y ∨ x ∈ o := by
            intro o
            induction o with
            | nil => intro hx; exact .inl (List.mem_singleton.1 hx)
            | cons z o ih2 =>
              intro hx
              rw [insR] at hx
              split at hx
              · rcases List.mem_cons.1 hx with rfl | hx
                · exact .inr List.mem_cons_self
                · rcases ih2 hx with h | h
                  · exact .inl h
                  · exact .inr (List.mem_cons_of_mem _ h)
              · rcases List.mem_cons.1 hx with rfl | hx
                · exact .inl rfl
                · exact .inr hx
          rcases h1 o h with rfl | h
          · exact .inr List.mem_cons_self
          · exact .inl h
        · exact .inr (List.mem_cons_of_mem _ h)
    intro x hx
    have e := refS_eq cand0 ltC l []
    rw [List.reverse_nil] at e
    rw [e, List.mem_reverse] at hx
    rcases h0 l [] x hx with h | h
    · simp at h
    · exact h
  have hWfew : ∀ x ∈ W, x.few := fun x hx => hfw x (hWm x hx)
  have hhead := sort_head l hl0
  rw [hW] at hhead
  have hmem := minC_mem hl0
  have hmf := hfw _ hmem
  have HL : Hid (∀ w', Below w.heap.size w w' → IsSl RCand 8 cand0 w' (Lt w.heap.size) (.slice A l.length c) l) := fun w' hB => h.keep rcand_stable (fun _ h => h) (keep_below hB hS)
  have HOW := Lib.hid (fun w' (hB : Below w.heap.size w w') => own35_any w' (Lt w.heap.size) _ l (fun b hb => Nat.lt_of_lt_of_le hb hB.size) (HL.out w' hB) (by omega))
  have HBE := Lib.hid (fun w' (hB : Below w.heap.size w w') => best_any w' (Lt w.heap.size) _ l (fun b hb => Nat.lt_of_lt_of_le hb hB.size) (HL.out w' hB) hl0 (by omega) (fun k hk => hfw _ (nth_mem cand0 l k hk)) hmk)
  have HSO := Lib.hid (fun w' (hB : Below w.heap.size w w') => ranksort_any w' (Lt w.heap.size) _ l (fun b hb => Nat.lt_of_lt_of_le hb hB.size) (HL.out w' hB) hl0 hl1 hfw hmk)
  rw [hW] at HSO
  have HRS := Lib.hid (fun w' (S : Nat → Prop) v (hS : ∀ b, S b → b < w'.heap.size) (hi : IsSl RCand 8 cand0 w' S v l) => rsort_any w' S v l hS hi (by omega) hfw)
  rw [hW] at HRS
  have HOW2 := Lib.hid (fun w' (S : Nat → Prop) v (hS : ∀ b, S b → b < w'.heap.size) (hi : IsSl RCand 8 cand0 w' S v W) => own35_any w' S v W hS hi (by omega))
  have HOW3 := Lib.hid (fun w' (S : Nat → Prop) v (hS : ∀ b, S b → b < w'.heap.size) (hi : IsSl RCand 8 cand0 w' S v [minC l]) => own35_any w' S v [minC l] hS hi (by simp))
  have HSM := Lib.hid (fun w' (S1 S2 : Nat → Prop) v1 v2 (hS1 : ∀ b, S1 b → b < w'.heap.size) (hS2 : ∀ b, S2 b → b < w'.heap.size) (h1 : IsSl RCand 8 cand0 w' S1 v1 W) (h2 : IsSl RCand 8 cand0 w' S2 v2 W) => rsame35_eq w' S1 S2 v1 v2 W hS1 hS2 h1 h2 (by omega) hWfew)
  have HSM2 := Lib.hid (fun w' (S1 S2 : Nat → Prop) v1 v2 (hS1 : ∀ b, S1 b → b < w'.heap.size) (hS2 : ∀ b, S2 b → b < w'.heap.size) (h1 : IsSl RCand 8 cand0 w' S1 v1 [minC l]) (h2 : IsSl RCand 8 cand0 w' S2 v2 [minC l]) => rsame35_eq w' S1 S2 v1 v2 [minC l] hS1 hS2 h1 h2 (by simp) (fun x hx => by rw [List.mem_singleton.1 hx]; exact hmf))
  have HFW : Hid (∀ k, k < l.length → (nth cand0 l k).few) := fun k hk => hfw _ (nth_mem cand0 l k hk)
  have HHD := Lib.hid hhead
  have HWL := Lib.hid hWl
  clear hfew hW hWm hWfew hhead hmem hmf hfw hmk h hWl
  generalize minC l = mc at *
  generalize hln : l.length = n at *
  have HLN := Lib.hid hln
  clear hln
  have hnz : ((n : Int) == 0) = false := beq_false_of_ne (by omega)
  go_enter Try.func3, Try.ntmps3
  go_wp2_with (first
    | (go_at_call 4; refine HFEW.out.mono ?_; rintro e w2 ⟨rfl, hB2⟩)
    | (go_at_call 6; refine (HOW.out _ hB2).mono ?_; rintro e w3 ⟨v3, rfl, hi3, hB3⟩; have hk3 := hB2.trans (hB3.mono hB2.size); have HI3 := Lib.hid hi3; have hz23 := hB3.size; have hz2 := hB2.size)
    | (go_at_call 7; refine (HRS.out w3 _ v3 (fun b hb => by rcases hb with hb | hb; exact Nat.lt_of_lt_of_le hb (by omega); exact hb.2) HI3.out).mono ?_; rintro e w4 ⟨v4, rfl, hi4, hB4⟩; have hk4 := hk3.trans (hB4.mono hk3.size); have HI4 := Lib.hid hi4; have hz34 := hB4.size))
  obtain ⟨S3, hS3⟩ : ∃ S3, (fun b => Lt w.heap.size b ∨ Btw w2.heap.size w3.heap.size b) = S3 := ⟨_, rfl⟩
  have HS3 : Hid (∀ b, S3 b → b < w3.heap.size) := fun b hb => by
    rw [← hS3] at hb
    rcases hb with hb | hb
    · exact Nat.lt_of_lt_of_le hb (by omega)
    · exact hb.2
  have HS4 : Hid (∀ b, S3 b ∨ Btw w3.heap.size w4.heap.size b → b < w4.heap.size) := fun b hb => by
    rcases hb with hb | hb
    · exact Nat.lt_of_lt_of_le (HS3.out b hb) (by omega)
    · exact hb.2
  have HI3a : Hid (IsSl RCand 8 cand0 w3 S3 v3 l) := by rw [← hS3]; exact HI3.out
  have HI4a : Hid (IsSl RCand 8 cand0 w4 (fun b => S3 b ∨ Btw w3.heap.size w4.heap.size b) v4 W) := by rw [← hS3]; exact HI4.out
  clear hi3 hi4 hS3 HI3 HI4
  have HI3b : Hid (∀ w', Below w4.heap.size w4 w' → IsSl RCand 8 cand0 w' S3 v3 l) := fun w' hB => HI3a.out.keep rcand_stable (fun _ h => h) (keep_below (hB4.trans (hB.mono hz34)) HS3.out)
  have HI4b : Hid (∀ w', Below w4.heap.size w4 w' → IsSl RCand 8 cand0 w' (fun b => S3 b ∨ Btw w3.heap.size w4.heap.size b) v4 W) := fun w' hB => HI4a.out.keep rcand_stable (fun _ h => h) (keep_below hB HS4.out)
  obtain ⟨A3, c3, hv3, hc3, hr3⟩ := HI3a.out
  rw [HLN.out] at hv3 hc3
  subst hv3
  obtain ⟨A4, c4, hv4, hc4, hr4⟩ := HI4a.out
  rw [HWL.out] at hv4 hc4
  subst hv4
  obtain ⟨g4, o4, hA4, _, _⟩ := hr4 (by rw [HWL.out]; omega)
  subst hA4
  have hc41 : (1 : Int) ≤ (c4 : Int) := by omega
  have HI4t : Hid (∀ w', Below w4.heap.size w4 w' → IsSl RCand 8 cand0 w' (fun b => S3 b ∨ Btw w3.heap.size w4.heap.size b) (.slice (some ⟨g4, o4, none⟩) 1 c4) [mc]) := fun w' hB => by
    have h := (HI4b.out w' hB).slice_.2.2.take 1
    rw [HHD.out] at h
    exact ⟨_, _, rfl, by simp; omega, h⟩
  clear hr3 hr4
  have hz4 := hk4.size
  obtain ⟨R1, m1, ok1, cl1⟩ := raws_of (HL.out w4 hk4).slice_.2.2
  obtain ⟨R3, m3, ok3, cl3⟩ := raws_of (HI3b.out w4 (Below.refl _ _)).slice_.2.2
  have hR1 : R1.length = n := by rw [← List.length_map (f := RC.c), m1]; exact HLN.out
  have hR3 : R3.length = n := by rw [← List.length_map (f := RC.c), m3]; exact HLN.out
  rw [HLN.out] at cl1 cl3
  have HR1 : Hid (∀ k, k < n → (nth rc0 R1 k).c = nth cand0 l k ∧ (nth rc0 R1 k).at w4 (Lt w.heap.size)) := fun k hk => ⟨by rw [← nth_c, m1], ok1 _ (nth_mem_rc (by omega))⟩
  have HR3 : Hid (∀ k, k < n → (nth rc0 R3 k).c = nth cand0 l k ∧ (nth rc0 R3 k).at w4 S3) := fun k hk => ⟨by rw [← nth_c, m3], ok3 _ (nth_mem_rc (by omega))⟩
  have HC1 := Lib.hid cl1
  have HC3 := Lib.hid cl3
  clear m1 ok1 cl1 m3 ok3 cl3 hR1 hR3
  go_loopw [5] (fun i wr => ∃ k : Nat, k ≤ n ∧ i = .int .i64 k ∧ Below w4.heap.size w4 wr) (fun i _ => n - (intOf i).toNat)
  case atStart => exact ⟨0, by omega, rfl, Below.refl _ _⟩
  case round =>
    obtain ⟨k, hk, rfl, hB⟩ := hrel
    by_cases hlt : k < n
    · go_wp2_with fail
      go_loopw [6] (fun i wr => ∃ q : Nat, q ≤ n ∧ i = .int .i64 q ∧ Below w4.heap.size w4 wr) (fun i _ => n - (intOf i).toNat)
      case atStart => exact ⟨0, by omega, rfl, hB⟩
      case round =>
        obtain ⟨q, hq, rfl, hB⟩ := hrel
        have hz := hB.size
        by_cases hqlt : q < n
        · obtain ⟨b1, off1, rfl, hb1, q1⟩ := HC1.out (by omega)
          obtain ⟨b3, off3, rfl, hb3, q3⟩ := HC3.out (by omega)
          have hb1w : b1 < w4.heap.size := Nat.lt_of_lt_of_le hb1 hz4
          have hb3w : b3 < w4.heap.size := Nat.lt_of_lt_of_le (HS3.out b3 hb3) hz34
          have q1k := q1 k hlt
          have q1q := q1 q hqlt
          have q3k := q3 k hlt
          have q3q := q3 q hqlt
          obtain ⟨e1k, t1k⟩ := HR1.out k hlt
          obtain ⟨e1q, t1q⟩ := HR1.out q hqlt
          obtain ⟨e3k, t3k⟩ := HR3.out k hlt
          obtain ⟨e3q, t3q⟩ := HR3.out q hqlt
          have fk := HFW.out k hlt
          have fq := HFW.out q hqlt
          generalize nth rc0 R1 k = r1 at *
          generalize nth rc0 R1 q = r2 at *
          generalize nth rc0 R3 k = s1 at *
          generalize nth rc0 R3 q = s2 at *
          generalize nth cand0 l k = x at *
          generalize nth cand0 l q = y at *
          have HC8 : Hid (∀ w', Below wr.heap.size wr w' → (Cells8 w' b1 (off1 + k * 8) r1 ∧ Cells8 w' b1 (off1 + q * 8) r2) ∧ Cells8 w' b3 (off3 + k * 8) s1 ∧ Cells8 w' b3 (off3 + q * 8) s2) := fun w' hB' => by
            have hh := hB.trans (hB'.mono hz)
            exact ⟨⟨q1k.below hh hb1w, q1q.below hh hb1w⟩, q3k.below hh hb3w, q3q.below hh hb3w⟩
          obtain ⟨cv, hcv⟩ : ∃ cv, decide (cmpC x y < 0) = cv := ⟨_, rfl⟩
          have HB1 : Hid (∀ w', Below wr.heap.size wr w' → Calls Try.prog 8 #[.agg r1.enc.toArray, .agg r2.enc.toArray] w' fun e w'' => e = .returned (.bool cv) ∧ Below w'.heap.size w' w'') := fun w' hB' => by
            have hh := hB.trans (hB'.mono hz)
            have hhz := hh.size
            rw [← hcv, ← e1k, ← e1q]
            exact before_any w' (Lt w.heap.size) (Lt w.heap.size) _ _ r1.c r2.c (fun b hb => by have : b < w.heap.size := hb; omega) (fun b hb => by have : b < w.heap.size := hb; omega) (t1k.below hh (fun b hb => by have : b < w.heap.size := hb; omega)).is (t1q.below hh (fun b hb => by have : b < w.heap.size := hb; omega)).is (by rw [e1k]; exact fk) (by rw [e1q]; exact fq)
          have HB2 : Hid (∀ w', Below wr.heap.size wr w' → Calls Try.prog 9 #[.agg s1.enc.toArray, .agg s2.enc.toArray] w' fun e w'' => e = .returned (.bool cv) ∧ Below w'.heap.size w' w'') := fun w' hB' => by
            have hh := hB.trans (hB'.mono hz)
            have hhz := hh.size
            rw [← hcv, ← e3k, ← e3q]
            exact rbefore_any w' S3 S3 _ _ s1.c s2.c (fun b hb => by have := HS3.out b hb; omega) (fun b hb => by have := HS3.out b hb; omega) (t3k.below hh (fun b hb => by have := HS3.out b hb; omega)).is (t3q.below hh (fun b hb => by have := HS3.out b hb; omega)).is (by rw [e3k]; exact fk) (by rw [e3q]; exact fq)
          dsimp only [RC.enc, RC.cells, Cand.cells] at HB1 HB2
          clear q1 q3 q1k q1q q3k q3q e1k t1k e1q t1q e3k t3k e3q t3q fk fq hcv
          go_upto_region 11 with fail
          refine wp_region_till (T := fun _ => false) (S := fun w' => Below wr.heap.size wr w') (by kernel_rfl) (Below.refl wr.heap.size wr).drew (fun hHeld => ?_)
          obtain ⟨w101, hw0⟩ : ∃ x, wr.drew = x := ⟨_, rfl⟩
          rw [hw0] at hHeld ⊢
          have hkA : Below wr.heap.size wr w101 := hHeld
          clear hHeld hw0
          refine wpTill_put 0 29 (oi := _) (v := ?_) rfl rfl (by kernel_rfl) (by kernel_rfl) (by kernel_rfl) (by kernel_rfl) (fun _ _ _ h => h) (by rfl) hkA ?_ ?_
          rotate_left
          · (intro w2' hSw; go_simp; (try with_reducible rfl))
          (try simp only [Act.put, List.setIfInBounds_toArray, List.set_cons_zero, List.set_cons_succ])
          refine wpTill_put 1 30 (oi := _) (v := ?_) rfl rfl (by kernel_rfl) (by kernel_rfl) (by kernel_rfl) (by kernel_rfl) (fun _ _ _ h => h) (by rfl) hkA ?_ ?_
          rotate_left
          · (intro w2' hSw; go_simp; (try with_reducible rfl))
          (try simp only [Act.put, List.setIfInBounds_toArray, List.set_cons_zero, List.set_cons_succ])
          refine wpTill_put 2 31 (oi := _) (v := ?_) rfl rfl (by kernel_rfl) (by kernel_rfl) (by kernel_rfl) (by kernel_rfl) (fun _ _ _ h => h) (by rfl) hkA ?_ ?_
          rotate_left
          · (intro w2' hSw; go_simp; (try with_reducible rfl))
          (try simp only [Act.put, List.setIfInBounds_toArray, List.set_cons_zero, List.set_cons_succ])
          refine wpTill_put 3 32 (oi := _) (v := ?_) rfl rfl (by kernel_rfl) (by kernel_rfl) (by kernel_rfl) (by kernel_rfl) (fun _ _ _ h => h) (by rfl) hkA ?_ ?_
          rotate_left
          · (intro w2' hSw; obtain ⟨⟨⟨c0, c1, c2, c3, c4, c5, c6, c7⟩, d0, d1, d2, d3, d4, d5, d6, d7⟩, _, _⟩ := HC8.out _ hSw; go_simp; (try with_reducible rfl))
          (try simp only [Act.put, List.setIfInBounds_toArray, List.set_cons_zero, List.set_cons_succ])
          refine wpTill_put 4 33 (oi := _) (v := ?_) rfl rfl (by kernel_rfl) (by kernel_rfl) (by kernel_rfl) (by kernel_rfl) (fun _ _ _ h => h) (by rfl) hkA ?_ ?_
          rotate_left
          · (intro w2' hSw; go_simp; (try with_reducible rfl))
          (try simp only [Act.put, List.setIfInBounds_toArray, List.set_cons_zero, List.set_cons_succ])
          refine wpTill_put 5 34 (oi := _) (v := ?_) rfl rfl (by kernel_rfl) (by kernel_rfl) (by kernel_rfl) (by kernel_rfl) (fun _ _ _ h => h) (by rfl) hkA ?_ ?_
          rotate_left
          · (intro w2' hSw; go_simp; (try with_reducible rfl))
          (try simp only [Act.put, List.setIfInBounds_toArray, List.set_cons_zero, List.set_cons_succ])
          refine wpTill_put 6 35 (oi := _) (v := ?_) rfl rfl (by kernel_rfl) (by kernel_rfl) (by kernel_rfl) (by kernel_rfl) (fun _ _ _ h => h) (by rfl) hkA ?_ ?_
          rotate_left
          · (intro w2' hSw; go_simp; (try with_reducible rfl))
          (try simp only [Act.put, List.setIfInBounds_toArray, List.set_cons_zero, List.set_cons_succ])
          refine wpTill_put 7 36 (oi := _) (v := ?_) rfl rfl (by kernel_rfl) (by kernel_rfl) (by kernel_rfl) (by kernel_rfl) (fun _ _ _ h => h) (by rfl) hkA ?_ ?_
          rotate_left
          · (intro w2' hSw; obtain ⟨⟨⟨c0, c1, c2, c3, c4, c5, c6, c7⟩, d0, d1, d2, d3, d4, d5, d6, d7⟩, _, _⟩ := HC8.out _ hSw; go_simp; (try with_reducible rfl))
          (try simp only [Act.put, List.setIfInBounds_toArray, List.set_cons_zero, List.set_cons_succ])
          refine wpTill_put 9 38 (oi := _) (v := ?_) rfl rfl (by kernel_rfl) (by kernel_rfl) (by kernel_rfl) (by kernel_rfl) (fun _ _ _ h => h) (by rfl) hkA ?_ ?_
          rotate_left
          · (intro w2' hSw; go_simp; (try with_reducible rfl))
          (try simp only [Act.put, List.setIfInBounds_toArray, List.set_cons_zero, List.set_cons_succ])
          refine wpTill_put 10 39 (oi := _) (v := ?_) rfl rfl (by kernel_rfl) (by kernel_rfl) (by kernel_rfl) (by kernel_rfl) (fun _ _ _ h => h) (by rfl) hkA ?_ ?_
          rotate_left
          · (intro w2' hSw; go_simp; (try with_reducible rfl))
          (try simp only [Act.put, List.setIfInBounds_toArray, List.set_cons_zero, List.set_cons_succ])
          refine wpTill_put 11 40 (oi := _) (v := ?_) rfl rfl (by kernel_rfl) (by kernel_rfl) (by kernel_rfl) (by kernel_rfl) (fun _ _ _ h => h) (by rfl) hkA ?_ ?_
          rotate_left
          · (intro w2' hSw; go_simp; (try with_reducible rfl))
          (try simp only [Act.put, List.setIfInBounds_toArray, List.set_cons_zero, List.set_cons_succ])
          refine wpTill_put 12 41 (oi := _) (v := ?_) rfl rfl (by kernel_rfl) (by kernel_rfl) (by kernel_rfl) (by kernel_rfl) (fun _ _ _ h => h) (by rfl) hkA ?_ ?_
          rotate_left
          · (intro w2' hSw; obtain ⟨_, ⟨c0, c1, c2, c3, c4, c5, c6, c7⟩, d0, d1, d2, d3, d4, d5, d6, d7⟩ := HC8.out _ hSw; go_simp; (try with_reducible rfl))
          (try simp only [Act.put, List.setIfInBounds_toArray, List.set_cons_zero, List.set_cons_succ])
          refine wpTill_put 13 42 (oi := _) (v := ?_) rfl rfl (by kernel_rfl) (by kernel_rfl) (by kernel_rfl) (by kernel_rfl) (fun _ _ _ h => h) (by rfl) hkA ?_ ?_
          rotate_left
          · (intro w2' hSw; go_simp; (try with_reducible rfl))
          (try simp only [Act.put, List.setIfInBounds_toArray, List.set_cons_zero, List.set_cons_succ])
          refine wpTill_put 14 43 (oi := _) (v := ?_) rfl rfl (by kernel_rfl) (by kernel_rfl) (by kernel_rfl) (by kernel_rfl) (fun _ _ _ h => h) (by rfl) hkA ?_ ?_
          rotate_left
          · (intro w2' hSw; go_simp; (try with_reducible rfl))
          (try simp only [Act.put, List.setIfInBounds_toArray, List.set_cons_zero, List.set_cons_succ])
          refine wpTill_put 15 44 (oi := _) (v := ?_) rfl rfl (by kernel_rfl) (by kernel_rfl) (by kernel_rfl) (by kernel_rfl) (fun _ _ _ h => h) (by rfl) hkA ?_ ?_
          rotate_left
          · (intro w2' hSw; go_simp; (try with_reducible rfl))
          (try simp only [Act.put, List.setIfInBounds_toArray, List.set_cons_zero, List.set_cons_succ])
          refine wpTill_put 16 45 (oi := _) (v := ?_) rfl rfl (by kernel_rfl) (by kernel_rfl) (by kernel_rfl) (by kernel_rfl) (fun _ _ _ h => h) (by rfl) hkA ?_ ?_
          rotate_left
          · (intro w2' hSw; obtain ⟨_, ⟨c0, c1, c2, c3, c4, c5, c6, c7⟩, d0, d1, d2, d3, d4, d5, d6, d7⟩ := HC8.out _ hSw; go_simp; (try with_reducible rfl))
          (try simp only [Act.put, List.setIfInBounds_toArray, List.set_cons_zero, List.set_cons_succ])
          refine wpTill_one 8 (o := _) (by kernel_rfl) rfl (fun K hK => ?_)
          go_simp
          refine (HB1.out _ hkA).mono ?_
          rintro e w102 ⟨rfl, hB5⟩
          have hkA := hkA.trans (hB5.mono hkA.size)
          refine hK.out _ _ (fun _ => hkA) (fun _ => ?_)
          clear hK K
          (try simp only [Act.put, List.setIfInBounds_toArray, List.set_cons_zero, List.set_cons_succ])
          refine wpTill_one 17 (o := _) (by kernel_rfl) rfl (fun K hK => ?_)
          go_simp
          refine (HB2.out _ hkA).mono ?_
          rintro e w103 ⟨rfl, hB6⟩
          have hkA := hkA.trans (hB6.mono hkA.size)
          refine hK.out _ _ (fun _ => hkA) (fun _ => ?_)
          clear hK K
          (try simp only [Act.put, List.setIfInBounds_toArray, List.set_cons_zero, List.set_cons_succ])
          refine wpTill_put 18 47 (oi := _) (v := ?_) rfl rfl (by kernel_rfl) (by kernel_rfl) (by kernel_rfl) (by kernel_rfl) (fun _ _ _ h => h) (by rfl) hkA ?_ ?_
          rotate_left
          · (intro w2' hSw; go_simp; (try with_reducible rfl))
          (try simp only [Act.put, List.setIfInBounds_toArray, List.set_cons_zero, List.set_cons_succ])
          refine wpTill_done (by kernel_rfl) ?_ _
          obtain ⟨wz, hwz⟩ : ∃ wz, w103 = wz := ⟨_, rfl⟩
          rw [hwz] at hkA ⊢
          clear hwz
          go_wp2_with fail
          go_roundw
          case rel => exact ⟨q + 1, by omega, by go_num, hB.trans (hkA.mono hz)⟩
          case measure => simp [intOf]; omega
        · obtain rfl : q = n := by omega
          go_wp2_with fail
          go_roundw
          case rel => exact ⟨k + 1, by omega, by go_num, hB⟩
          case measure => simp [intOf]; omega
    · obtain rfl : k = n := by omega
      have hz := hB.size
      have hkr := hk4.trans (hB.mono hz4)
      go_upto_region 14 with (go_at_call 10; refine (HBE.out _ hkr).mono ?_; rintro e w5 ⟨v5, rfl, ⟨Am, nm, rfl, hnm, hrm⟩, hB5⟩; have hk5 := hkr.trans (hB5.mono hkr.size); have hz5 := hB5.size)
      dsimp only [candV, Cand.cells]
      obtain ⟨w6, hw6⟩ : ∃ w6, w5.alloc (.cells #[.bool mc.super, .int .i64 mc.top, .int .i64 mc.details, .int .i64 mc.pool.tx, .int .i64 mc.pool.time, .int .i64 mc.pool.unit, .int .i64 mc.pool.data, .slice Am mc.pool.devs.length nm] 33) = w6 := ⟨_, rfl⟩
      have hbb : Below w5.heap.size w5 w6 := by rw [← hw6]; exact (Below.refl _ _).alloc (Nat.le_refl _) _
      have hbx : CBoxT 33 w6 w5.heap.size mc Am nm := by rw [← hw6]; exact heap_alloc_new w5 _
      have hs6 : w6.heap.size = w5.heap.size + 1 := by rw [← hw6]; simp
      rw [hw6]
      clear hw6
      have hk6 := hk5.trans (hbb.mono hk5.size)
      have h46 : Below w4.heap.size w4 w6 := hB.trans ((hB5.trans (hbb.mono hz5)).mono hz)
      have hz6 := hk6.size
      have hz46 := h46.size
      have HBX : Hid (∀ w', Below w6.heap.size w6 w' → _) := fun w' hB' => CBoxT.cells ((hB'.block w5.heap.size (by omega)).trans hbx)
      have HRM : Hid (∀ w', Below w6.heap.size w6 w' → DevRow w' (Btw wr.heap.size w5.heap.size) Am mc.pool.devs) := fun w' hB' => hrm.keep rdev_stable (fun b hb => hb.1) (keep_below (hbb.trans (hB'.mono (by omega))) (fun b hb => hb.1.2))
      have HNM := Lib.hid hnm
      clear hrm hnm hbx hbb hB5
      go_upto_region 16 with fail
      refine wp_region_till (T := fun _ => false) (S := fun w' => Below w6.heap.size w6 w') (by kernel_rfl) (Below.refl w6.heap.size w6).drew (fun hHeld => ?_)
      obtain ⟨w104, hw0⟩ : ∃ x, w6.drew = x := ⟨_, rfl⟩
      rw [hw0] at hHeld ⊢
      have hkA : Below w6.heap.size w6 w104 := hHeld
      clear hHeld hw0
      refine wpTill_put 0 67 (oi := _) (v := ?_) rfl rfl (by kernel_rfl) (by kernel_rfl) (by kernel_rfl) (by kernel_rfl) (fun _ _ _ h => h) (by rfl) hkA ?_ ?_
      rotate_left
      · (intro w2' hSw; go_simp; (try with_reducible rfl))
      (try simp only [Act.put, List.setIfInBounds_toArray, List.set_cons_zero, List.set_cons_succ])
      refine wpTill_put 3 70 (oi := _) (v := ?_) rfl rfl (by kernel_rfl) (by kernel_rfl) (by kernel_rfl) (by kernel_rfl) (fun _ _ _ h => h) (by rfl) hkA ?_ ?_
      rotate_left
      · (intro w2' hSw; go_simp; (try with_reducible rfl))
      (try simp only [Act.put, List.setIfInBounds_toArray, List.set_cons_zero, List.set_cons_succ])
      refine wpTill_one 1 (o := _) (by kernel_rfl) rfl (fun K hK => ?_)
      go_simp
      refine (HSO.out w104 (hk6.trans (hkA.mono hz6))).mono ?_
      rintro e w105 ⟨v7, rfl, hi7, hB7⟩
      have hkA := hkA.trans (hB7.mono hkA.size)
      refine hK.out _ _ (fun _ => hkA) (fun _ => ?_)
      clear hK K
      (try simp only [Act.put, List.setIfInBounds_toArray, List.set_cons_zero, List.set_cons_succ])
      refine wpTill_one 2 (o := _) (by kernel_rfl) rfl (fun K hK => ?_)
      go_simp
      refine (HOW2.out w105 _ v7 (fun b hb => hb.2) hi7).mono ?_
      rintro e w106 ⟨v8, rfl, hi8, hB8⟩
      have hkA := hkA.trans (hB8.mono hkA.size)
      have hz8 := hB8.size
      refine hK.out _ _ (fun _ => hkA) (fun _ => ?_)
      clear hK K
      (try simp only [Act.put, List.setIfInBounds_toArray, List.set_cons_zero, List.set_cons_succ])
      refine wpTill_one 4 (o := _) (by kernel_rfl) rfl (fun K hK => ?_)
      go_simp
      refine (HSM.out w106 _ _ v8 _ (fun b hb => by rcases hb with hb | hb; exact Nat.lt_of_lt_of_le hb.2 hz8; exact hb.2) (fun b hb => Nat.lt_of_lt_of_le (HS4.out b hb) (by have := hkA.size; omega)) hi8 (HI4b.out w106 (h46.trans (hkA.mono hz46)))).mono ?_
      rintro e w107 ⟨rfl, hB9⟩
      have hkA := hkA.trans (hB9.mono hkA.size)
      refine hK.out _ _ (fun _ => hkA) (fun _ => ?_)
      clear hK K
      (try simp only [Act.put, List.setIfInBounds_toArray, List.set_cons_zero, List.set_cons_succ])
      refine wpTill_put 5 72 (oi := _) (v := ?_) rfl rfl (by kernel_rfl) (by kernel_rfl) (by kernel_rfl) (by kernel_rfl) (fun _ _ _ h => h) (by rfl) hkA ?_ ?_
      rotate_left
      · (intro w2' hSw; go_simp; (try with_reducible rfl))
      (try simp only [Act.put, List.setIfInBounds_toArray, List.set_cons_zero, List.set_cons_succ])
      refine wpTill_put 6 73 (oi := _) (v := ?_) rfl rfl (by kernel_rfl) (by kernel_rfl) (by kernel_rfl) (by kernel_rfl) (fun _ _ _ h => h) (by rfl) hkA ?_ ?_
      rotate_left
      · (intro w2' hSw; go_simp; (try with_reducible rfl))
      (try simp only [Act.put, List.setIfInBounds_toArray, List.set_cons_zero, List.set_cons_succ])
      refine wpTill_put 7 74 (oi := _) (v := ?_) rfl rfl (by kernel_rfl) (by kernel_rfl) (by kernel_rfl) (by kernel_rfl) (fun _ _ _ h => h) (by rfl) hkA ?_ ?_
      rotate_left
      · (intro w2' hSw; go_simp; (try with_reducible rfl))
      (try simp only [Act.put, List.setIfInBounds_toArray, List.set_cons_zero, List.set_cons_succ])
      refine wpTill_put 8 75 (oi := _) (v := ?_) rfl rfl (by kernel_rfl) (by kernel_rfl) (by kernel_rfl) (by kernel_rfl) (fun _ _ _ h => h) (by rfl) hkA ?_ ?_
      rotate_left
      · (intro w2' hSw; go_simp; (try with_reducible rfl))
      (try simp only [Act.put, List.setIfInBounds_toArray, List.set_cons_zero, List.set_cons_succ])
      refine wpTill_put 9 76 (oi := _) (v := ?_) rfl rfl (by kernel_rfl) (by kernel_rfl) (by kernel_rfl) (by kernel_rfl) (fun _ _ _ h => h) (by rfl) hkA ?_ ?_
      rotate_left
      · (intro w2' hSw; obtain ⟨c0, c1, c2, c3, c4, c5, c6, c7⟩ := HBX.out _ hSw; go_simp; (try with_reducible rfl))
      (try simp only [Act.put, List.setIfInBounds_toArray, List.set_cons_zero, List.set_cons_succ])
      refine wpTill_put 12 79 (oi := _) (v := ?_) rfl rfl (by kernel_rfl) (by kernel_rfl) (by kernel_rfl) (by kernel_rfl) (fun _ _ _ h => h) (by rfl) hkA ?_ ?_
      rotate_left
      · (intro w2' hSw; go_simp; (try with_reducible rfl))
      (try simp only [Act.put, List.setIfInBounds_toArray, List.set_cons_zero, List.set_cons_succ])
      refine wpTill_put 13 80 (oi := _) (v := ?_) rfl rfl (by kernel_rfl) (by kernel_rfl) (by kernel_rfl) (by kernel_rfl) (fun _ _ _ h => h) (by rfl) hkA ?_ ?_
      rotate_left
      · (intro w2' hSw; go_simp; (try with_reducible rfl))
      (try simp only [Act.put, List.setIfInBounds_toArray, List.set_cons_zero, List.set_cons_succ])
      refine wpTill_one 10 (o := _) (by kernel_rfl) rfl (fun K hK => ?_)
      go_simp
      obtain ⟨w108, hwn⟩ : ∃ wx, w107.alloc (.cells #[.bool mc.super, .int .i64 mc.top, .int .i64 mc.details, .int .i64 mc.pool.tx, .int .i64 mc.pool.time, .int .i64 mc.pool.unit, .int .i64 mc.pool.data, .slice Am mc.pool.devs.length nm] 33) = wx := ⟨_, rfl⟩
      have hBn : Below w107.heap.size w107 w108 := by rw [← hwn]; exact (Below.refl _ _).alloc (Nat.le_refl _) _
      have b10 : w108.heap[w107.heap.size]? = some (.cells #[.bool mc.super, .int .i64 mc.top, .int .i64 mc.details, .int .i64 mc.pool.tx, .int .i64 mc.pool.time, .int .i64 mc.pool.unit, .int .i64 mc.pool.data, .slice Am mc.pool.devs.length nm] 33) := by rw [← hwn]; exact heap_alloc_new w107 _
      have hge10 := hkA.size
      have hz10 : w107.heap.size < w108.heap.size := by rw [← hwn]; simp
      have hkA := hkA.trans (hBn.mono hkA.size)
      rw [hwn]
      clear hwn hBn
      refine hK.out _ _ (fun _ => hkA) (fun _ => ?_)
      clear hK K
      (try simp only [Act.put, List.setIfInBounds_toArray, List.set_cons_zero, List.set_cons_succ])
      refine wpTill_one 11 (o := _) (by kernel_rfl) rfl (fun K hK => ?_)
      go_simp
      have hib : IsSl RCand 8 cand0 w108 (fun b => b = w107.heap.size ∨ Btw wr.heap.size w5.heap.size b) (.slice (some ⟨w107.heap.size, 0, none⟩) 1 1) [mc] := cands_block (l := [mc]) b10 (.inl rfl) (by simp) (fun k hk => by
        obtain rfl : k = 0 := by simp at hk; omega
        exact ⟨Am, nm, fun j _ => by rw [show 0 * 8 + j = j by omega]; rfl, HNM.out, (HRM.out w108 hkA).keep rdev_stable (fun b hb => .inr hb) Keep.refl⟩)
      refine (HOW3.out w108 _ _ (fun b hb => by rcases hb with rfl | hb; exact hz10; exact Nat.lt_of_lt_of_le hb.2 (by have := hkA.size; omega)) hib).mono ?_
      rintro e w109 ⟨v11, rfl, hi11, hB11⟩
      have hz11 := hB11.size
      have hzk := hkA.size
      have hkA := hkA.trans (hB11.mono hkA.size)
      refine hK.out _ _ (fun _ => hkA) (fun _ => ?_)
      clear hK K
      (try simp only [Act.put, List.setIfInBounds_toArray, List.set_cons_zero, List.set_cons_succ])
      refine wpTill_one 14 (o := _) (by kernel_rfl) rfl (fun K hK => ?_)
      go_simp
      refine (HSM2.out w109 _ _ v11 _ (fun b hb => by rcases hb with (rfl | hb) | hb; exact Nat.lt_of_lt_of_le hz10 hz11; exact Nat.lt_of_lt_of_le hb.2 (by omega); exact hb.2) (fun b hb => Nat.lt_of_lt_of_le (HS4.out b hb) (by omega)) hi11 (HI4t.out w109 (h46.trans (hkA.mono hz46)))).mono ?_
      rintro e w110 ⟨rfl, hB14⟩
      have hkA := hkA.trans (hB14.mono hkA.size)
      refine hK.out _ _ (fun _ => hkA) (fun _ => ?_)
      clear hK K
      (try simp only [Act.put, List.setIfInBounds_toArray, List.set_cons_zero, List.set_cons_succ])
      refine wpTill_put 15 82 (oi := _) (v := ?_) rfl rfl (by kernel_rfl) (by kernel_rfl) (by kernel_rfl) (by kernel_rfl) (fun _ _ _ h => h) (by rfl) hkA ?_ ?_
      rotate_left
      · (intro w2' hSw; go_simp; (try with_reducible rfl))
      (try simp only [Act.put, List.setIfInBounds_toArray, List.set_cons_zero, List.set_cons_succ])
      refine wpTill_put 16 83 (oi := _) (v := ?_) rfl rfl (by kernel_rfl) (by kernel_rfl) (by kernel_rfl) (by kernel_rfl) (fun _ _ _ h => h) (by rfl) hkA ?_ ?_
      rotate_left
      · (intro w2' hSw; go_simp; (try with_reducible rfl))
      (try simp only [Act.put, List.setIfInBounds_toArray, List.set_cons_zero, List.set_cons_succ])
      refine wpTill_one 17 (o := _) (by kernel_rfl) rfl (fun K hK => ?_)
      go_simp
      refine (lives36 w110).mono ?_
      rintro e w111 ⟨rfl, hB17⟩
      have hkA := hkA.trans (hB17.mono hkA.size)
      refine hK.out _ _ (fun _ => hkA) (fun _ => ?_)
      clear hK K
      (try simp only [Act.put, List.setIfInBounds_toArray, List.set_cons_zero, List.set_cons_succ])
      refine wpTill_put 18 85 (oi := _) (v := ?_) rfl rfl (by kernel_rfl) (by kernel_rfl) (by kernel_rfl) (by kernel_rfl) (fun _ _ _ h => h) (by rfl) hkA ?_ ?_
      rotate_left
      · (intro w2' hSw; go_simp; (try with_reducible rfl))
      (try simp only [Act.put, List.setIfInBounds_toArray, List.set_cons_zero, List.set_cons_succ])
      refine wpTill_put 19 2 (oi := _) (v := ?_) rfl rfl (by kernel_rfl) (by kernel_rfl) (by kernel_rfl) (by kernel_rfl) (fun _ _ _ h => h) (by rfl) hkA ?_ ?_
      rotate_left
      · (intro w2' hSw; go_simp; (try with_reducible rfl))
      (try simp only [Act.put, List.setIfInBounds_toArray, List.set_cons_zero, List.set_cons_succ])
      refine wpTill_done (by kernel_rfl) ?_ _
      all_goals (try go_wp2)
      go_ret
      exact ⟨rfl, hk6.trans (hkA.mono hz6)⟩
theorem rankSorts_walk (w : World) (v : Value) (l : List Cand) (h : IsSl RCand 8 cand0 w (Lt w.heap.size) v l) (hl1 : l.length ≤ 140737488355328) (hok : ∀ c ∈ l, c.pool.ok) :
    Calls Try.prog 3 #[v] w fun e w' => e = .returned (.bool true) ∧ Below w.heap.size w w' := by
  have hS : ∀ b, Lt w.heap.size b → b < w.heap.size := fun _ h => h
  have hfew := few36_any w (Lt w.heap.size) v l hS h hl1 hok
  obtain ⟨A, c, rfl, hc, hr⟩ := h
  by_cases hf : few36 l = true
  · obtain ⟨hlen, hall⟩ := few36_all hf
    rw [hf] at hfew
    rcases Nat.eq_zero_or_pos l.length with h0 | h0
    · rw [h0] at hfew ⊢
      exact rankSorts_nil w A c hfew
    · exact rankSorts_some w A c l ⟨A, c, rfl, hc, hr⟩ h0 hlen (fun c hc => (few_of (hok c hc) (hall c hc)).1) (fun c hc => (few_of (hok c hc) (hall c hc)).2) hfew
  · have hff : few36 l = false := by cases hx : few36 l with
      | false => rfl
      | true => exact absurd hx hf
    rw [hff] at hfew
    have HFEW := Lib.hid hfew
    clear hfew hf hff hr
    go_enter Try.func3, Try.ntmps3
    go_wp2_with (first
      | (go_at_call 4; refine HFEW.out.mono ?_; rintro e w2 ⟨rfl, hB2⟩)
      | (go_at_call 5; refine (lives36 _).mono ?_; rintro e w9 ⟨rfl, hB9⟩; have hk9 := hB2.trans (hB9.mono hB2.size)))
    go_ret
    exact ⟨rfl, hk9⟩
end Go.Proofs.Ytolpgblegbahgaa

/- From an argument's reading to the words of Base: slices of structs of integers, nested slices, lengths within the reach. No condition: for any program. -/
namespace Go.Proofs.Ytolpgblegbahgaa
open Go.RowKit Go.ChangeShapes Go.WideShapes Go.Deep

/-- Nothing that the datum holds is longer than the reach. -/
def Weighs {H : Type} (P : Program) (t : TypeId) (d : DataW H) : Prop := ∀ x ∈ d.weights P t, x ≤ reachBytes

theorem weightsAll_mem {H : Type} {P : Program} {e : TypeId} {d : DataW H} {x : Nat} : ∀ {l : List (DataW H)}, d ∈ l → x ∈ d.weights P e → x ∈ DataW.weightsAll P e l := by
  intro l
  induction l with
  | nil => intro h; cases h
  | cons a l ih =>
    intro h hx
    rw [DataW.weightsAll, List.mem_append]
    rcases List.mem_cons.1 h with rfl | h
    · exact .inl hx
    · exact .inr (ih h hx)
theorem weightsEach_mem {H : Type} {P : Program} {d : DataW H} {t : TypeId} {x : Nat} : ∀ {ts : List TypeId} {l : List (DataW H)} {i : Nat}, ts[i]? = some t → l[i]? = some d → x ∈ d.weights P t → x ∈ DataW.weightsEach P ts l := by
  intro ts
  induction ts with
  | nil => intro l i h; simp at h
  | cons a ts ih =>
    intro l i h hl hx
    cases l with
    | nil => simp at hl
    | cons b l =>
      rw [DataW.weightsEach, List.mem_append]
      cases i with
      | zero =>
        simp at h hl
        subst h hl
        exact .inl hx
      | succ i =>
        simp at h hl
        exact .inr (ih h hl hx)

/-- What the reading of a value of type t tells of its cells. -/
def Opens {α : Type} (P : Program) (t : TypeId) (R : Rel α) (ok : α → Prop) : Prop :=
  ∀ (H : Type) (enc : TypeId × Value → H) (w : World) (base : Nat) (spare : Nat → Bool) (held : Bool) (n : Nat) (cs : List Value) (y : DataW H × List MemPlace),
    DataW.trod enc P w base spare held n t cs = some y → Weighs P t y.1 → ∃ a, R w (Lt w.heap.size) cs a ∧ ok a

theorem in64_of_wf {n : Int} (h : (Lit.int .i64 n).wf = true) : In64 n := by
  have := bounds_i64 h
  unfold In64
  omega

/-- A slice as a relation on its one cell. -/
def RSl {α : Type} (R : Rel α) (size : Nat) (d : α) : Rel (List α) := fun w S cs l => ∃ v, cs = [v] ∧ IsSl R size d w S v l
theorem rsl_stable {α : Type} {R : Rel α} {size : Nat} {d : α} (h : Stable R) : Stable (RSl R size d) := by
  rintro w w' S S' cs l hs hk ⟨v, e, hv⟩
  exact ⟨v, e, hv.keep h hs hk⟩

theorem opens_slice {α : Type} {P : Program} {t e : TypeId} {R : Rel α} {ok : α → Prop} {size bytes : Nat} (d : α) (ht : P.underlying t = some (.slice e)) (hC : P.cellsOf e = size) (hsz : 0 < size) (hb : P.bytesOf e = bytes) (h : Opens P e R ok) :
    Opens P t (RSl R size d) (fun l => (∀ a ∈ l, ok a) ∧ l.length * bytes ≤ reachBytes) := by
  intro H enc w base spare held n cs y hy hw
  rcases open_slice ht hy with ⟨rfl, rfl⟩ | ⟨a, len, cap, m, n', D, Pl, rfl, _, hl, _, hm, rfl, hi⟩
  · exact ⟨[], ⟨_, rfl, IsSl.nil_⟩, by simp, by simp⟩
  · have hlm : len ≤ m := by rw [hm]; split <;> omega
    have hmem : ∀ i, i < len → D i ∈ (List.range len).map D := fun i hi => List.mem_map.2 ⟨i, List.mem_range.2 hi, rfl⟩
    have hwe : ∀ i, i < len → Weighs P e (D i) := by
      intro i hi x hx
      refine hw x ?_
      simp only [DataW.weights, ht]
      exact List.mem_cons_of_mem _ (List.mem_append_left _ (weightsAll_mem (hmem i hi) hx))
    have hlen : len * bytes ≤ reachBytes := by
      have := hw (((List.range len).map D).length + ((List.range (m - len)).map fun j => D (len + j)).length |>.mul (P.bytesOf e)) (by
        simp only [DataW.weights, ht]
        exact List.mem_cons_self)
      simp only [List.length_map, List.length_range, hb] at this
      exact Nat.le_trans (Nat.mul_le_mul_right _ (by omega)) this
    have hx : ∀ i, i < len → ∃ x : α, ∃ cs', w.cells? base (a.add (i * size)) size = some cs' ∧ R w (Lt w.heap.size) cs' x ∧ ok x := by
      intro i hil
      obtain ⟨cs', h1, h2⟩ := hi i (by omega)
      rw [hC] at h1
      obtain ⟨x, hx1, hx2⟩ := h H enc w base spare held n' cs' _ h2 (hwe i hil)
      exact ⟨x, cs', h1, hx1, hx2⟩
    haveI : Inhabited α := ⟨d⟩
    obtain ⟨f, hf⟩ := choose_lt hx
    refine ⟨(List.range len).map f, ⟨_, rfl, some a, cap, by simp, by simpa using hl, ?_⟩, ?_, by simpa using hlen⟩
    · intro h0
      simp only [List.length_map, List.length_range] at h0
      obtain ⟨cs0, h1, _, _⟩ := hf 0 h0
      obtain ⟨_, hl0, hc0⟩ := World.cells?_some h1
      have hcell : w.cell? (a.add (0 * size)) = cs0[0]? := by
        have := hc0 0 hsz
        simpa [Addr.add] using this
      obtain ⟨u, hu⟩ : ∃ u, cs0[0]? = some u := ⟨cs0[0]'(by omega), List.getElem?_eq_getElem (by omega)⟩
      rw [hu] at hcell
      have hcell' : w.cell? a = some u := by simpa [Addr.add] using hcell
      obtain ⟨b, off, spot⟩ := a
      obtain rfl : spot = none := World.cell?_spot hcell'
      refine ⟨b, off, rfl, World.block_lt_of_cell? w _ hcell', fun k hk => ?_⟩
      simp only [List.length_map, List.length_range] at hk
      obtain ⟨cs', g1, g2, _⟩ := hf k hk
      obtain ⟨_, g3, g4⟩ := World.cells?_some g1
      refine ⟨cs', g3, ?_, fun j u hu => ?_⟩
      · rw [nth_get d _ k (by simpa using hk)]
        simpa using g2
      · have hj : j < size := by
          have := (List.getElem?_eq_some_iff.1 hu).1
          omega
        have := g4 j hj
        rw [hu, add_add] at this
        have e1 : (⟨b, off, none⟩ : Addr).add (k * size + j) = ⟨b, off + k * size + j, none⟩ := by
          unfold Addr.add
          split
          · rename_i h0
            have : off = off + k * size + j := by omega
            rw [← this]
          · simp only [Addr.mk.injEq, and_true, true_and]; omega
        rw [e1] at this
        exact this
    · intro x hx
      obtain ⟨i, hi, rfl⟩ := List.mem_map.1 hx
      obtain ⟨_, _, _, g⟩ := hf i (List.mem_range.1 hi)
      exact g

/-- A struct of one-cell fields: each field's own reading. -/
theorem struct_fields {H : Type} {enc : TypeId × Value → H} {P : Program} {w : World} {base : Nat} {spare : Nat → Bool} {held : Bool} {n : Nat} {t : TypeId} {fs : Array Field} {cs : List Value} {y : DataW H × List MemPlace}
    (hs : P.underlying t = some (.struct fs)) (hone : oneCellFields P fs = true) (hC : P.cellsOf t = fs.size) (h : DataW.trod enc P w base spare held n t cs = some y) (hw : Weighs P t y.1) :
    cs.length = fs.size ∧ ∀ (i : Nat) (f : Field), fs[i]? = some f → ∃ u m z, cs[i]? = some u ∧ DataW.trod enc P w base spare held m f.type [u] = some z ∧ Weighs P f.type z.1 := by
  obtain ⟨xs, m, _, rfl, hlen, hxl, hf⟩ := DataW.trod_struct hs h
  rw [hC] at hlen
  refine ⟨hlen, fun i f hi => ?_⟩
  obtain ⟨ho, hk⟩ := hone_of hone i f hi
  have hil : i < fs.size := (Array.getElem?_eq_some_iff.1 hi).1
  have h1 := hf i f hi
  have hu : cs[i]? = some (cs[i]'(by omega)) := List.getElem?_eq_getElem (by omega)
  have hx : xs[i]? = some (xs[i]'(by omega)) := List.getElem?_eq_getElem (by omega)
  have hone' : (cs.drop i).take 1 = [cs[i]'(by omega)] := by
    rw [List.drop_eq_getElem_cons (by omega)]
    rfl
  rw [ho, hk, hone', hx] at h1
  refine ⟨_, m, _, hu, h1, fun x hxw => hw x ?_⟩
  simp only [DataW.weights, hs]
  refine weightsEach_mem (i := i) (t := f.type) (d := (xs[i]'(by omega)).1) ?_ ?_ hxw
  · rw [List.getElem?_map]
    have : fs.toList[i]? = some f := by simpa using hi
    rw [this]; rfl
  · rw [List.getElem?_map, hx]; rfl
theorem field_int {H : Type} {enc : TypeId × Value → H} {P : Program} {w : World} {base : Nat} {spare : Nat → Bool} {held : Bool} {n : Nat} {t : TypeId} {u : Value} {y : DataW H × List MemPlace} (ht : P.underlying t = some (.int .i64))
    (h : DataW.trod enc P w base spare held n t [u] = some y) : ∃ k, u = .int .i64 k ∧ In64 k := by
  obtain ⟨k, e, _, hw⟩ := DataW.trod_int ht h
  simp at e
  exact ⟨k, e, in64_of_wf hw⟩
/-- A struct of integers. -/
theorem opens_ints {P : Program} {t : TypeId} {fs : Array Field} (hs : P.underlying t = some (.struct fs)) (hone : oneCellFields P fs = true) (hC : P.cellsOf t = fs.size) (hf : ∀ (i : Nat) (f : Field), fs[i]? = some f → P.underlying f.type = some (.int .i64)) :
    Opens P t (fun _ _ cs (ns : List Int) => cs = ns.map (Value.int .i64) ∧ ns.length = fs.size) (fun ns => ∀ n ∈ ns, In64 n) := by
  intro H enc w base spare held n cs y hy hw
  obtain ⟨hlen, hx⟩ := struct_fields hs hone hC hy hw
  have hg : ∀ i, i < fs.size → ∃ k : Int, cs[i]? = some (.int .i64 k) ∧ In64 k := by
    intro i hi
    have hfi : fs[i]? = some fs[i] := by simp [hi]
    obtain ⟨u, m, z, hu, hz, _⟩ := hx i _ hfi
    obtain ⟨k, rfl, hk⟩ := field_int (hf i _ hfi) hz
    exact ⟨k, hu, hk⟩
  obtain ⟨f, hf'⟩ := choose_lt hg
  refine ⟨(List.range fs.size).map f, ⟨?_, by simp⟩, ?_⟩
  · apply List.ext_getElem?
    intro i
    by_cases hi : i < fs.size
    · rw [(hf' i hi).1]; simp [hi]
    · rw [List.getElem?_eq_none (by omega)]; simp [hi]
  · intro k hk
    obtain ⟨i, hi, rfl⟩ := List.mem_map.1 hk
    exact (hf' i (List.mem_range.1 hi)).2
theorem Opens.mono {α β : Type} {P : Program} {t : TypeId} {R : Rel α} {ok : α → Prop} {R' : Rel β} {ok' : β → Prop} (h : Opens P t R ok) (f : ∀ w S cs a, R w S cs a → ok a → ∃ b, R' w S cs b ∧ ok' b) : Opens P t R' ok' := by
  intro H enc w base spare held n cs y hy hw
  obtain ⟨a, ha, hoa⟩ := h H enc w base spare held n cs y hy hw
  exact f _ _ _ _ ha hoa
/-- A struct of four integers and a slice. -/
theorem opens_four {α : Type} {P : Program} {t ti ts : TypeId} {f0 f1 f2 f3 f4 : Field} {R : Rel (List α)} {ok : List α → Prop} (hs : P.underlying t = some (.struct #[f0, f1, f2, f3, f4])) (hone : oneCellFields P #[f0, f1, f2, f3, f4] = true) (hC : P.cellsOf t = 5)
    (h0 : f0.type = ti) (h1 : f1.type = ti) (h2 : f2.type = ti) (h3 : f3.type = ti) (h4 : f4.type = ts) (hi : P.underlying ti = some (.int .i64)) (h : Opens P ts R ok) :
    Opens P t (fun w S cs (x : Int × Int × Int × Int × List α) => ∃ v, cs = [.int .i64 x.1, .int .i64 x.2.1, .int .i64 x.2.2.1, .int .i64 x.2.2.2.1, v] ∧ R w S [v] x.2.2.2.2)
      (fun x => In64 x.1 ∧ In64 x.2.1 ∧ In64 x.2.2.1 ∧ In64 x.2.2.2.1 ∧ ok x.2.2.2.2) := by
  intro H enc w base spare held n cs y hy hw
  obtain ⟨hlen, hx⟩ := struct_fields hs hone hC hy hw
  obtain ⟨u0, _, _, e0, g0, _⟩ := hx 0 f0 rfl
  obtain ⟨u1, _, _, e1, g1, _⟩ := hx 1 f1 rfl
  obtain ⟨u2, _, _, e2, g2, _⟩ := hx 2 f2 rfl
  obtain ⟨u3, _, _, e3, g3, _⟩ := hx 3 f3 rfl
  obtain ⟨u4, _, _, e4, g4, w4⟩ := hx 4 f4 rfl
  subst h0
  obtain ⟨n0, rfl, k0⟩ := field_int hi g0
  rw [h1] at g1; rw [h2] at g2; rw [h3] at g3; rw [h4] at g4 w4
  obtain ⟨n1, rfl, k1⟩ := field_int hi g1
  obtain ⟨n2, rfl, k2⟩ := field_int hi g2
  obtain ⟨n3, rfl, k3⟩ := field_int hi g3
  obtain ⟨l, hr, hok⟩ := h H enc w base spare held _ [u4] _ g4 w4
  refine ⟨(n0, n1, n2, n3, l), ⟨u4, ?_, hr⟩, k0, k1, k2, k3, hok⟩
  match cs, hlen with
  | [c0, c1, c2, c3, c4], _ =>
    simp at e0 e1 e2 e3 e4
    subst e0 e1 e2 e3 e4
    rfl
end Go.Proofs.Ytolpgblegbahgaa

/- What the readings of this program's types tell. No condition. -/
namespace Go.Proofs.Ytolpgblegbahgaa
open Go.RowKit
theorem list3 {α : Type} {l : List α} (h : l.length = 3) : ∃ a b c, l = [a, b, c] := by
  match l, h with
  | [a, b, c], _ => exact ⟨a, b, c, rfl⟩
theorem opens_mp : Opens Try.prog 63 RMp Mp.ok :=
  (opens_ints Try.underlying63 (by kernel_rfl) (by kernel_rfl) (by
    intro i f h
    match i, h with
    | 0, h => simp at h; subst h; exact Try.underlying3
    | 1, h => simp at h; subst h; exact Try.underlying3
    | 2, h => simp at h; subst h; exact Try.underlying3
    | i + 3, h => simp at h)).mono (by
      rintro w S cs ns ⟨rfl, hl⟩ hn
      obtain ⟨a, b, c, rfl⟩ := list3 (by simpa using hl)
      exact ⟨⟨a, b, c⟩, rfl, hn a (by simp), hn b (by simp), hn c (by simp)⟩)
def MapsOk (l : List Mp) : Prop := (∀ m ∈ l, m.ok) ∧ l.length * 24 ≤ reachBytes
theorem MapsOk.len {l : List Mp} (h : MapsOk l) : l.length ≤ 5864062014805 := by have := h.2; unfold reachBytes at this; omega
theorem opens_maps : Opens Try.prog 48 (RSl RMp 3 mp0) MapsOk :=
  opens_slice mp0 Try.underlying48 (by kernel_rfl) (by omega) (by kernel_rfl) opens_mp
/-- What an argument's reading tells. -/
theorem Opens.arg {α : Type} {P : Program} {t : TypeId} {R : Rel α} {ok : α → Prop} (h : Opens P t R ok) {H : Type} {enc : TypeId × Value → H} {w : World} {base : Nat} {spare : Nat → Bool} {held : Bool} {v : Value} {d : DataW H} {p : List MemPlace}
    (ht : DataW.Trod enc P w base spare held t v d p) (hw : Weighs P t d) : ∃ a, R w (Lt w.heap.size) v.cells.toList a ∧ ok a := by
  obtain ⟨n, hn⟩ := ht
  exact h H enc w base spare held n _ _ hn hw
theorem weighs_of {H : Type} {P : Program} {ts : List TypeId} {ds : List (DataW H)} (h : (DataW.weightsEach P ts ds).all (· ≤ reachBytes) = true) {i : Nat} {t : TypeId} {d : DataW H} (ht : ts[i]? = some t) (hd : ds[i]? = some d) : Weighs P t d :=
  fun x hx => by simpa using List.all_eq_true.1 h x (weightsEach_mem ht hd hx)
end Go.Proofs.Ytolpgblegbahgaa

/- What the readings of devices and pools tell. No condition. -/
namespace Go.Proofs.Ytolpgblegbahgaa
open Go.RowKit
theorem MapsOk.dev {l : List Mp} (h : MapsOk l) : (∀ m ∈ l, m.ok) ∧ l.length ≤ 5864062014805 := ⟨h.1, h.len⟩
theorem opens_dev : Opens Try.prog 50 RDev Dev.ok :=
  (opens_four (ti := 3) Try.underlying50 (by kernel_rfl) (by kernel_rfl) rfl rfl rfl rfl rfl Try.underlying3 opens_maps).mono (by
    rintro w S cs ⟨a, b, c, d, l⟩ ⟨v, rfl, v', e, A, c', rfl, hc, hr⟩ ⟨o1, o2, o3, o4, o5⟩
    cases e
    exact ⟨⟨a, b, c, d, l⟩, ⟨A, c', rfl, hc, hr⟩, o1, o2, o3, o4, o5.1, o5.len⟩)
def DevsOk (l : List Dev) : Prop := (∀ d ∈ l, d.ok) ∧ l.length * 56 ≤ reachBytes
theorem DevsOk.len {l : List Dev} (h : DevsOk l) : l.length ≤ 5864062014805 := by have := h.2; unfold reachBytes at this; omega
theorem opens_devs : Opens Try.prog 29 (RSl RDev 5 dev0) DevsOk :=
  opens_slice dev0 Try.underlying29 (by kernel_rfl) (by omega) (by kernel_rfl) opens_dev
/-- The cells of a pool by value. -/
def RPool : Rel Pool := fun w S cs p => ∃ A c, cs = [.int .i64 p.tx, .int .i64 p.time, .int .i64 p.unit, .int .i64 p.data, .slice A p.devs.length c] ∧ p.devs.length ≤ c ∧ DevRow w S A p.devs
theorem opens_pool : Opens Try.prog 31 RPool Pool.ok :=
  (opens_four (ti := 3) Try.underlying31 (by kernel_rfl) (by kernel_rfl) rfl rfl rfl rfl rfl Try.underlying3 opens_devs).mono (by
    rintro w S cs ⟨a, b, c, d, l⟩ ⟨v, rfl, v', e, A, c', rfl, hc, hr⟩ ⟨o1, o2, o3, o4, o5⟩
    cases e
    exact ⟨⟨a, b, c, d, l⟩, ⟨A, c', rfl, hc, hr⟩, o1, o2, o3, o4, o5.1, o5.len⟩)
theorem RPool.is {w : World} {S : Nat → Prop} {cs : Array Value} {p : Pool} (h : RPool w S cs.toList p) : IsPool w S (.agg cs) p := by
  obtain ⟨A, c, e, hc, hr⟩ := h
  exact ⟨A, c, by rw [← e], hc, hr⟩
end Go.Proofs.Ytolpgblegbahgaa

/- What the readings of candidates tell. No condition. -/
namespace Go.Proofs.Ytolpgblegbahgaa
open Go.RowKit Go.ChangeShapes Go.WideShapes

/-- A struct: each field's own reading. -/
theorem struct_parts {H : Type} {enc : TypeId × Value → H} {P : Program} {w : World} {base : Nat} {spare : Nat → Bool} {held : Bool} {n : Nat} {t : TypeId} {fs : Array Field} {cs : List Value} {y : DataW H × List MemPlace}
    (hs : P.underlying t = some (.struct fs)) (h : DataW.trod enc P w base spare held n t cs = some y) (hw : Weighs P t y.1) :
    cs.length = P.cellsOf t ∧ ∀ (i : Nat) (f : Field), fs[i]? = some f → ∃ m z, DataW.trod enc P w base spare held m f.type ((cs.drop f.offset).take (P.cellsOf f.type)) = some z ∧ Weighs P f.type z.1 := by
  obtain ⟨xs, m, _, rfl, hlen, hxl, hf⟩ := DataW.trod_struct hs h
  refine ⟨hlen, fun i f hi => ?_⟩
  have hil : i < fs.size := (Array.getElem?_eq_some_iff.1 hi).1
  have h1 := hf i f hi
  have hx : xs[i]? = some (xs[i]'(by omega)) := List.getElem?_eq_getElem (by omega)
  rw [hx] at h1
  refine ⟨m, _, h1, fun x hxw => hw x ?_⟩
  simp only [DataW.weights, hs]
  refine weightsEach_mem (i := i) (t := f.type) (d := (xs[i]'(by omega)).1) ?_ ?_ hxw
  · rw [List.getElem?_map]
    have : fs.toList[i]? = some f := by simpa using hi
    rw [this]; rfl
  · rw [List.getElem?_map, hx]; rfl
theorem opens_cand_of {P : Program} {t tb ti tp : TypeId} {f0 f1 f2 f3 : Field} (hs : P.underlying t = some (.struct #[f0, f1, f2, f3])) (hC : P.cellsOf t = 8) (k0 : f0.offset = 0 ∧ f0.type = tb) (k1 : f1.offset = 1 ∧ f1.type = ti) (k2 : f2.offset = 2 ∧ f2.type = ti) (k3 : f3.offset = 3 ∧ f3.type = tp)
    (c0 : P.cellsOf tb = 1) (c1 : P.cellsOf ti = 1) (c3 : P.cellsOf tp = 5) (hb : P.underlying tb = some .bool) (hi : P.underlying ti = some (.int .i64)) (h : Opens P tp RPool Pool.ok) :
    Opens P t RCand Cand.ok := by
  intro H enc w base spare held n cs y hy hw
  obtain ⟨hlen, hx⟩ := struct_parts hs hy hw
  rw [hC] at hlen
  obtain ⟨_, z0, g0, _⟩ := hx 0 f0 rfl
  obtain ⟨_, z1, g1, _⟩ := hx 1 f1 rfl
  obtain ⟨_, z2, g2, _⟩ := hx 2 f2 rfl
  obtain ⟨_, z3, g3, w3⟩ := hx 3 f3 rfl
  rw [k0.1, k0.2, c0] at g0
  rw [k1.1, k1.2, c1] at g1
  rw [k2.1, k2.2, c1] at g2
  rw [k3.1, k3.2, c3] at g3
  rw [k3.2] at w3
  match cs, hlen with
  | [a0, a1, a2, a3, a4, a5, a6, a7], _ =>
    simp only [List.drop_zero, List.drop_succ_cons, List.take_succ_cons, List.take_zero] at g0 g1 g2 g3
    obtain ⟨b, e0, _⟩ := DataW.trod_bool hb g0
    obtain ⟨n1, e1, o1⟩ := field_int hi g1
    obtain ⟨n2, e2, o2⟩ := field_int hi g2
    obtain ⟨p, ⟨A, c, e3, hc, hr⟩, o3⟩ := h H enc w base spare held _ _ _ g3 w3
    simp at e0 e3
    obtain ⟨rfl, rfl, rfl, rfl, rfl⟩ := e3
    subst e0 e1 e2
    exact ⟨⟨b, n1, n2, p⟩, ⟨A, c, rfl, hc, hr⟩, o1, o2, o3⟩
theorem opens_cand : Opens Try.prog 33 RCand Cand.ok :=
  opens_cand_of (tb := 4) (ti := 3) (tp := 31) Try.underlying33 (by kernel_rfl) ⟨rfl, rfl⟩ ⟨rfl, rfl⟩ ⟨rfl, rfl⟩ ⟨rfl, rfl⟩ (by kernel_rfl) (by kernel_rfl) (by kernel_rfl) Try.underlying4 Try.underlying3 opens_pool
def CandsOk (l : List Cand) : Prop := (∀ c ∈ l, c.ok) ∧ l.length * 80 ≤ reachBytes
theorem CandsOk.len {l : List Cand} (h : CandsOk l) : l.length ≤ 140737488355328 := by have := h.2; unfold reachBytes at this; omega
theorem opens_cands : Opens Try.prog 22 (RSl RCand 8 cand0) CandsOk :=
  opens_slice cand0 Try.underlying22 (by kernel_rfl) (by omega) (by kernel_rfl) opens_cand
theorem RCand.is {w : World} {S : Nat → Prop} {cs : Array Value} {c : Cand} (h : RCand w S cs.toList c) : IsCand w S (.agg cs) c := by
  obtain ⟨A, n, e, hc, hr⟩ := h
  exact ⟨A, n, by rw [show cs = c.cells A n from Array.toList_inj.1 e], hc, hr⟩
end Go.Proofs.Ytolpgblegbahgaa
