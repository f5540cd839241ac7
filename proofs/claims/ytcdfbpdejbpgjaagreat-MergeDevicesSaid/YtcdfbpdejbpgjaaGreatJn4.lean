import Derived.Test.YtcdfbpdejbpgjaaGreatJn3
import Derived.Test.YtcdfbpdejbpgjaaGreatWSameM
import Derived.Test.YtcdfbpdejbpgjaaGreatPBox
import Derived.Test.YtcdfbpdejbpgjaaGreatWPoolRefs
import Derived.Deep.RegionHeld3
import Derived.Test.YtcdfbpdejbpgjaaGreatJn2
import Derived.Test.YtcdfbpdejbpgjaaGreatMap
import Derived.Deep.Slices
import Derived.Deep.Fields
import Derived.ChangeSame
import Derived.SizedLaws
import Derived.OpenShut
import Derived.Test.YtcdfbpdejbpgjaaGreatProg
import Derived.Test.YtcdfbpdejbpgjaaGreatPool
set_option linter.unusedVariables false
set_option linter.unusedSimpArgs false
/- scantlinglaw52.lives says yes. No condition. -/
namespace Go.Proofs.YtcdfbpdejbpgjaaGreat
open Go.RowKit Go.Shelf
attribute [local go_sem] Oper.semAt_some

/-- A block of mappings of the call's own reads as them. -/
theorem blockMaps {w : World} {S : Nat → Prop} {g n c : Nat} {cs : Array Value} {t : TypeId} {l : List Mp} (hg : w.heap[g]? = some (.cells cs t (0, 0))) (hcs : cs.toList = flats Mp.enc l) (hn : n = l.length) (hc : n ≤ c) (hS : S g) : IsMaps w S (.slice (some ⟨g, 0, none⟩) n c) l := IsSl.block Mp.enc_len hg hcs hn hc hS
theorem own_maps {w : World} {base n c : Nat} {A : Option Addr} {l : List Mp} {e : TypeId} (h : w.ownsRow base e 3 (.slice A n c) n (flats Mp.enc l)) : IsMaps w (Lt w.heap.size) (.slice A n c) l := (IsSl.own (d := mp0) Mp.enc_len h (by omega)).keep rmp_stable (fun _ h => h.2) Keep.refl
def exA : List Mp := [⟨1, 5, 0⟩, ⟨2, 6, 0⟩]
def exB : List Mp := [⟨2, 9, 0⟩, ⟨3, 7, 0⟩]
def exC : List Mp := [⟨1, 5, 0⟩, ⟨2, 9, 0⟩, ⟨3, 7, 0⟩]
theorem exO : overR exA exB = exC := by
  unfold overR
  rw [if_pos (by rfl)]
  simp [exA, exB, exC, mergeO]
abbrev exAc : Array Value := #[.int .i64 1, .int .i64 5, .int .i64 0, .int .i64 2, .int .i64 6, .int .i64 0]
abbrev exBc : Array Value := #[.int .i64 2, .int .i64 9, .int .i64 0, .int .i64 3, .int .i64 7, .int .i64 0]
abbrev exCc : Array Value := #[.int .i64 1, .int .i64 5, .int .i64 0, .int .i64 2, .int .i64 9, .int .i64 0, .int .i64 3, .int .i64 7, .int .i64 0]
set_option maxHeartbeats 1600000 in
theorem lives52 (w : World) : Calls Tryz.prog 5 #[] w fun e w' => e = .returned (.bool true) ∧ Below w.heap.size w w' := by
  have hB2 : Below w.heap.size w ((w.alloc (.cells exAc 40)).alloc (.cells exBc 40)) := ((Below.refl _ _).alloc (Nat.le_refl _) _).alloc (by simp) _
  have hA : IsMaps ((w.alloc (.cells exAc 40)).alloc (.cells exBc 40)) (Lt (w.heap.size + 2)) (.slice (some ⟨w.heap.size, 0, none⟩) 2 2) exA := blockMaps (cs := exAc) (t := 40) ((Below.heap_alloc _ _ _ (by simp)).trans (heap_alloc_new w _)) rfl rfl (by omega) (by show w.heap.size < w.heap.size + 2; omega)
  have hBm : IsMaps ((w.alloc (.cells exAc 40)).alloc (.cells exBc 40)) (Lt (w.heap.size + 2)) (.slice (some ⟨w.heap.size + 1, 0, none⟩) 2 2) exB := blockMaps (cs := exBc) (t := 40) (by have := heap_alloc_new (w.alloc (.cells exAc 40)) (.cells exBc 40); rwa [World.size_alloc] at this) rfl rfl (by omega) (by show w.heap.size + 1 < w.heap.size + 2; omega)
  have hov := over_any ((w.alloc (.cells exAc 40)).alloc (.cells exBc 40)) (Lt (w.heap.size + 2)) _ _ exA exB (fun b hb => by rw [World.size_alloc, World.size_alloc]; exact hb) hA hBm (by decide) (by decide)
  rw [exO, show chkAll [exA, exB] = 0 from rfl] at hov
  unfold ResIs at hov
  have HOV := Lib.hid hov
  have HB2 := Lib.hid hB2
  have hsa : ∀ w' A n c, n = exC.length → w'.ownsRow ((w.alloc (.cells exAc 40)).alloc (.cells exBc 40)).heap.size 40 3 (.slice A n c) n (flats Mp.enc exC) → Calls Tryz.prog 10 #[.slice A n c, .slice (some ⟨w'.heap.size, 0, none⟩) 3 3] (w'.alloc (.cells exCc 40)) fun e w'' => e = .returned (.bool true) ∧ Below w'.heap.size w' w'' := fun w' A n c hn hown => by
    have hB3 : Below w'.heap.size w' (w'.alloc (.cells exCc 40)) := (Below.refl _ _).alloc (Nat.le_refl _) _
    have h2 : IsMaps (w'.alloc (.cells exCc 40)) (fun _ => True) (.slice (some ⟨w'.heap.size, 0, none⟩) 3 3) exC := blockMaps (cs := exCc) (t := 40) (heap_alloc_new w' _) rfl rfl (by omega) trivial
    refine (rsameMaps_any _ _ _ _ _ exC exC ((own_maps hown).keep rmp_stable (fun _ h => h) (keep_below hB3 (fun _ h => h))) h2 (by decide)).mono ?_
    rintro e w'' ⟨rfl, m, rfl⟩
    exact ⟨by simp, below_drewN hB3 m⟩
  have HSA := Lib.hid hsa
  clear hA hBm hov hB2 hsa
  go_enter Tryz.func5, Tryz.ntmps5
  go_wp2_with (first
    | (go_at_call 9; refine HOV.out.mono ?_; rintro e w1 ⟨A1, n1, c1, hn1, rfl, hown1, hB1⟩; have HN1 := Lib.hid hn1; clear hn1)
    | (go_at_call 10; refine (HSA.out _ _ _ _ HN1.out hown1).mono ?_; rintro e w2 ⟨rfl, hB2⟩))
  go_ret
  have hk1 := HB2.out.trans (hB1.mono HB2.out.size)
  exact ⟨rfl, hk1.trans (hB2.mono hk1.size)⟩
end Go.Proofs.YtcdfbpdejbpgjaaGreat

/- scantlingref18.SameDevice, Same: whether two devices, two pools are the same. Condition: no slice is longer than the reach. -/
namespace Go.Proofs.YtcdfbpdejbpgjaaGreat
open Go.RowKit

deriving instance DecidableEq for Dev
deriving instance DecidableEq for Pool
theorem dev_ne {d e : Dev} (h : ¬ (d.id = e.id ∧ d.tx = e.tx ∧ d.made = e.made ∧ d.snapped = e.snapped ∧ d.maps = e.maps)) : d ≠ e := fun x => h (by rw [x]; simp)
theorem dev_eq {d e : Dev} (h1 : d.id = e.id) (h2 : d.tx = e.tx) (h3 : d.made = e.made) (h4 : d.snapped = e.snapped) (h5 : d.maps = e.maps) : d = e := by cases d; cases e; simp_all
/-- Two devices are the same: number for number. -/
theorem dev_dec (d e : Dev) : decide (d = e) = (decide (d.id = e.id) && (decide (d.tx = e.tx) && (decide (d.made = e.made) && (decide (d.snapped = e.snapped) && decide (d.maps = e.maps))))) := by
  cases d; cases e; simp
theorem pool_dec (d e : Pool) : decide (d = e) = (decide (d.tx = e.tx) && (decide (d.time = e.time) && (decide (d.unit = e.unit) && (decide (d.data = e.data) && decide (d.devs = e.devs))))) := by
  cases d; cases e; simp

set_option maxRecDepth 100000 in
set_option maxHeartbeats 1600000 in
theorem rsameDev_any (w : World) (S1 S2 : Nat → Prop) (v1 v2 : Value) (d e : Dev) (hS1 : ∀ b, S1 b → b < w.heap.size) (hS2 : ∀ b, S2 b → b < w.heap.size) (h1 : IsDev w S1 v1 d) (h2 : IsDev w S2 v2 e) (hn : d.maps.length ≤ 140737488355328) :
    Calls Tryz.prog 18 #[v1, v2] w fun x w' => x = .returned (.bool (decide (d = e))) ∧ Below w.heap.size w w' := by
  obtain ⟨A, c, rfl, hc, hra⟩ := h1
  obtain ⟨B, k, rfl, hd, hrb⟩ := h2
  have hB0 : Below w.heap.size w ((w.alloc (.cells #[.int .i64 d.id, .int .i64 d.tx, .int .i64 d.made, .int .i64 d.snapped, .slice A d.maps.length c] 36)).alloc (.cells #[.int .i64 e.id, .int .i64 e.tx, .int .i64 e.made, .int .i64 e.snapped, .slice B e.maps.length k] 36)) :=
    ((Below.refl _ _).alloc (Nat.le_refl _) _).alloc (by simp) _
  have hm := rsameMaps_any ((w.alloc (.cells #[.int .i64 d.id, .int .i64 d.tx, .int .i64 d.made, .int .i64 d.snapped, .slice A d.maps.length c] 36)).alloc (.cells #[.int .i64 e.id, .int .i64 e.tx, .int .i64 e.made, .int .i64 e.snapped, .slice B e.maps.length k] 36)) S1 S2 _ _ d.maps e.maps ⟨A, c, rfl, hc, hra.keep rmp_stable (fun _ h => h) (keep_below hB0 hS1)⟩ ⟨B, k, rfl, hd, hrb.keep rmp_stable (fun _ h => h) (keep_below hB0 hS2)⟩ hn
  have HM := Lib.hid hm
  have HD := Lib.hid (dev_dec d e)
  clear hm hra hrb hn hc hd
  by_cases g1 : d.id = e.id
  · skip
    by_cases g2 : d.tx = e.tx
    · skip
      by_cases g3 : d.made = e.made
      · skip
        by_cases g4 : d.snapped = e.snapped
        · skip
          have HE : Hid (decide (d = e) = decide (d.maps = e.maps)) := Lib.hid (by rw [HD.out]; simp [g1, g2, g3, g4])
          have b1 : (d.id == e.id) = true := by simp [g1]
          have b2 : (d.tx == e.tx) = true := by simp [g2]
          have b3 : (d.made == e.made) = true := by simp [g3]
          have b4 : (d.snapped == e.snapped) = true := by simp [g4]
          clear HD g1 g2 g3 g4
          go_enter Tryz.func18, Tryz.ntmps18
          go_wp2_with (go_at_call 10; refine HM.out.mono ?_; rintro x w2 ⟨rfl, m, rfl⟩)
          go_ret
          exact ⟨by rw [HE.out]; rfl, below_drewN hB0 m⟩
        · have HE : Hid (decide (d = e) = false) := Lib.hid (by rw [HD.out]; simp [g4])
          have b1 : (d.id == e.id) = true := by simp [g1]
          have b2 : (d.tx == e.tx) = true := by simp [g2]
          have b3 : (d.made == e.made) = true := by simp [g3]
          have b4 : (d.snapped == e.snapped) = false := by simp [g4]
          clear HD HM g1 g2 g3 g4
          go_enter Tryz.func18, Tryz.ntmps18
          go_wp2
          go_ret
          exact ⟨by rw [HE.out]; rfl, hB0⟩
      · have HE : Hid (decide (d = e) = false) := Lib.hid (by rw [HD.out]; simp [g3])
        have b1 : (d.id == e.id) = true := by simp [g1]
        have b2 : (d.tx == e.tx) = true := by simp [g2]
        have b3 : (d.made == e.made) = false := by simp [g3]
        clear HD HM g1 g2 g3
        go_enter Tryz.func18, Tryz.ntmps18
        go_wp2
        go_ret
        exact ⟨by rw [HE.out]; rfl, hB0⟩
    · have HE : Hid (decide (d = e) = false) := Lib.hid (by rw [HD.out]; simp [g2])
      have b1 : (d.id == e.id) = true := by simp [g1]
      have b2 : (d.tx == e.tx) = false := by simp [g2]
      clear HD HM g1 g2
      go_enter Tryz.func18, Tryz.ntmps18
      go_wp2
      go_ret
      exact ⟨by rw [HE.out]; rfl, hB0⟩
  · have HE : Hid (decide (d = e) = false) := Lib.hid (by rw [HD.out]; simp [g1])
    have b1 : (d.id == e.id) = false := by simp [g1]
    clear HD HM g1
    go_enter Tryz.func18, Tryz.ntmps18
    go_wp2
    go_ret
    exact ⟨by rw [HE.out]; rfl, hB0⟩
set_option maxRecDepth 100000 in
set_option maxHeartbeats 3200000 in
theorem rsamePool_any (w : World) (S1 S2 : Nat → Prop) (v1 v2 : Value) (d e : Pool) (hS1 : ∀ b, S1 b → b < w.heap.size) (hS2 : ∀ b, S2 b → b < w.heap.size) (h1 : IsPool w S1 v1 d) (h2 : IsPool w S2 v2 e) (hn : d.devs.length ≤ 1099511627776) (hm : ∀ k, k < d.devs.length → (nth dev0 d.devs k).maps.length ≤ 140737488355328) :
    Calls Tryz.prog 8 #[v1, v2] w fun x w' => x = .returned (.bool (decide (d = e))) ∧ Below w.heap.size w w' := by
  obtain ⟨A, c, rfl, hc, hra⟩ := h1
  obtain ⟨B, k, rfl, hd, hrb⟩ := h2
  have hB0 : Below w.heap.size w ((w.alloc (poolBox d A d.devs.length c)).alloc (poolBox e B e.devs.length k)) :=
    ((Below.refl _ _).alloc (Nat.le_refl _) _).alloc (by simp) _
  dsimp only [poolBox] at hB0
  have HD := Lib.hid (pool_dec d e)
  by_cases g1 : d.tx = e.tx
  · skip
    by_cases g2 : d.time = e.time
    · skip
      by_cases g3 : d.unit = e.unit
      · skip
        by_cases g4 : d.data = e.data
        · skip
          by_cases g5 : e.devs.length = d.devs.length
          · skip
            have b1 : (d.tx != e.tx) = false := by simp [g1]
            have b2 : (d.time != e.time) = false := by simp [g2]
            have b3 : (d.unit != e.unit) = false := by simp [g3]
            have b4 : (d.data != e.data) = false := by simp [g4]
            have HEQ : Hid (decide (d = e) = decide (d.devs = e.devs)) := Lib.hid (by rw [HD.out]; simp [g1, g2, g3, g4])
            have hp1 : PBox ((w.alloc (poolBox d A d.devs.length c)).alloc (poolBox e B e.devs.length k)) w.heap.size d A d.devs.length c := (PBox.new w d A d.devs.length c).below (Below.alloc (Below.refl _ _) (Nat.le_refl _) _) (by simp)
            have hp2 : PBox ((w.alloc (poolBox d A d.devs.length c)).alloc (poolBox e B e.devs.length k)) (w.heap.size + 1) e B e.devs.length k := by have h := PBox.new (w.alloc (poolBox d A d.devs.length c)) e B e.devs.length k; rw [World.size_alloc] at h; exact h
            dsimp only [poolBox] at hp1 hp2 hB0
            rw [g5] at hp2 hB0 hp1 ⊢
            clear HD g1 g2 g3 g4
            have HL := Lib.hid g5
            clear g5
            generalize hna : d.devs.length = n at *
            have HA := Lib.hid hna
            have HMM := Lib.hid hm
            clear hna hm
            go_enter Tryz.func8, Tryz.ntmps8
            go_wp2_with fail
            have hz0 : ((w.alloc (.cells #[.int .i64 d.tx, .int .i64 d.time, .int .i64 d.unit, .int .i64 d.data, .slice A n c] 24)).alloc (.cells #[.int .i64 e.tx, .int .i64 e.time, .int .i64 e.unit, .int .i64 e.data, .slice B n k] 24)).heap.size = w.heap.size + 2 := by simp
            generalize (w.alloc (.cells #[.int .i64 d.tx, .int .i64 d.time, .int .i64 d.unit, .int .i64 d.data, .slice A n c] 24)).alloc (.cells #[.int .i64 e.tx, .int .i64 e.time, .int .i64 e.unit, .int .i64 e.data, .slice B n k] 24) = w0 at *
            go_loopw [5] (fun i wr => ∃ j : Nat, i = .int .i64 j ∧ j ≤ n ∧ (∀ m, m < j → nth dev0 d.devs m = nth dev0 e.devs m) ∧ Below w0.heap.size w0 wr) (fun i _ => n - (intOf i).toNat)
            case atStart => exact ⟨0, rfl, by omega, fun j hj => absurd hj (by omega), Below.refl _ _⟩
            case round =>
              obtain ⟨j, rfl, hj, hsm, hB⟩ := hrel
              have HS := Lib.hid hsm
              clear hsm
              have hsz := hB.size
              have hp1r := hp1.below (b := w.heap.size) hB (by omega)
              have hp2r := hp2.below (b := w.heap.size + 1) hB (by omega)
              obtain ⟨x0, x1, x2, x3, x4⟩ := hp1r.cells
              obtain ⟨y0, y1, y2, y3, y4⟩ := hp2r.cells
              have hBw : Below w.heap.size w wr := hB0.trans (hB.mono (by omega))
              by_cases hlt : j < n
              · obtain ⟨ba, oa, rfl, hba, hca⟩ := devs_cells (hra.keep rdev_stable (fun _ h => h) (keep_below hBw hS1)) (by rw [HA.out]; omega)
                obtain ⟨a0, a1, a2, a3, Aa, ca, a4, hca', hra'⟩ := hca j (by rw [HA.out]; exact hlt)
                obtain ⟨bb, ob, rfl, hbb, hcb⟩ := devs_cells (hrb.keep rdev_stable (fun _ h => h) (keep_below hBw hS2)) (by rw [HL.out]; omega)
                obtain ⟨c0, c1, c2, c3, Ab, cb, c4, hcb', hrb'⟩ := hcb j (by rw [HL.out]; exact hlt)
                have hmk := HMM.out j hlt
                have hba2 : ba < wr.heap.size := by have := hS1 _ hba; omega
                have hbb2 : bb < wr.heap.size := by have := hS2 _ hbb; omega
                have hsame := rsameDev_any wr.drew S1 S2 (devV (nth dev0 d.devs j) Aa ca) (devV (nth dev0 e.devs j) Ab cb) (nth dev0 d.devs j) (nth dev0 e.devs j) (fun b hb => by have := hS1 b hb; show b < wr.heap.size; omega) (fun b hb => by have := hS2 b hb; show b < wr.heap.size; omega)
                  ⟨Aa, ca, rfl, hca', hra'⟩ ⟨Ab, cb, rfl, hcb', hrb'⟩ hmk
                dsimp only [devV] at hsame
                have HSM := Lib.hid hsame
                clear hca hcb hsame hra' hrb' hca' hcb'
                by_cases hx : nth dev0 d.devs j = nth dev0 e.devs j
                · have hS2 : ∀ m, m < j + 1 → nth dev0 d.devs m = nth dev0 e.devs m := fun m hm => by
                    by_cases e : m = j
                    · rw [e]; exact hx
                    · exact HS.out m (by omega)
                  have HS2 := Lib.hid hS2
                  have hxb : decide (nth dev0 d.devs j = nth dev0 e.devs j) = true := decide_eq_true hx
                  rw [hxb] at HSM
                  clear hx hS2 HS hxb
                  generalize nth dev0 d.devs j = z1 at *
                  generalize nth dev0 e.devs j = z2 at *
                  go_wp2_with fail
                  go_region_held3 (fun w' => w'.cell? ⟨w.heap.size, 4, none⟩ = some (.slice (some ⟨ba, oa, none⟩) n c) ∧ w'.cell? ⟨w.heap.size + 1, 4, none⟩ = some (.slice (some ⟨bb, ob, none⟩) n k) ∧
                      w'.cell? ⟨ba, oa + j * 5, none⟩ = some (.int .i64 z1.id) ∧ w'.cell? ⟨ba, oa + j * 5 + 1, none⟩ = some (.int .i64 z1.tx) ∧ w'.cell? ⟨ba, oa + j * 5 + 2, none⟩ = some (.int .i64 z1.made) ∧ w'.cell? ⟨ba, oa + j * 5 + 3, none⟩ = some (.int .i64 z1.snapped) ∧ w'.cell? ⟨ba, oa + j * 5 + 4, none⟩ = some (.slice Aa z1.maps.length ca) ∧
                      w'.cell? ⟨bb, ob + j * 5, none⟩ = some (.int .i64 z2.id) ∧ w'.cell? ⟨bb, ob + j * 5 + 1, none⟩ = some (.int .i64 z2.tx) ∧ w'.cell? ⟨bb, ob + j * 5 + 2, none⟩ = some (.int .i64 z2.made) ∧ w'.cell? ⟨bb, ob + j * 5 + 3, none⟩ = some (.int .i64 z2.snapped) ∧ w'.cell? ⟨bb, ob + j * 5 + 4, none⟩ = some (.slice Ab z2.maps.length cb)) (go_keep)
                    (first | (go_at_call 18; refine HSM.out.mono ?_; rintro x w2 ⟨rfl, hB4⟩; have hKK : ∀ b o, b < wr.heap.size → w2.cell? ⟨b, o, none⟩ = wr.cell? ⟨b, o, none⟩ := fun b o hb => hB4.cell (p := ⟨b, o, none⟩) hb; have i1 := (hKK _ _ hp1r.lt).trans x4; have i2 := (hKK _ _ hp2r.lt).trans y4; have j0 := (hKK _ _ hba2).trans a0; have j1 := (hKK _ _ hba2).trans a1; have j2 := (hKK _ _ hba2).trans a2; have j3 := (hKK _ _ hba2).trans a3; have j4 := (hKK _ _ hba2).trans a4; have m0 := (hKK _ _ hbb2).trans c0; have m1 := (hKK _ _ hbb2).trans c1; have m2 := (hKK _ _ hbb2).trans c2; have m3 := (hKK _ _ hbb2).trans c3; have m4 := (hKK _ _ hbb2).trans c4))
                  go_wp2_with fail
                  go_roundw
                  case rel => exact ⟨j + 1, by go_num, by omega, HS2.out, hB.drew.trans (hB4.mono (by simpa using hsz))⟩
                  case measure => simp [intOf]; omega
                · have hne : d.devs ≠ e.devs := fun x => hx (by rw [x])
                  have HE := Lib.hid (decide_eq_false hne)
                  have hxb : decide (nth dev0 d.devs j = nth dev0 e.devs j) = false := decide_eq_false hx
                  rw [hxb] at HSM
                  clear hne HS hx hxb
                  generalize nth dev0 d.devs j = z1 at *
                  generalize nth dev0 e.devs j = z2 at *
                  go_wp2_with fail
                  go_region_held3 (fun w' => w'.cell? ⟨w.heap.size, 4, none⟩ = some (.slice (some ⟨ba, oa, none⟩) n c) ∧ w'.cell? ⟨w.heap.size + 1, 4, none⟩ = some (.slice (some ⟨bb, ob, none⟩) n k) ∧
                      w'.cell? ⟨ba, oa + j * 5, none⟩ = some (.int .i64 z1.id) ∧ w'.cell? ⟨ba, oa + j * 5 + 1, none⟩ = some (.int .i64 z1.tx) ∧ w'.cell? ⟨ba, oa + j * 5 + 2, none⟩ = some (.int .i64 z1.made) ∧ w'.cell? ⟨ba, oa + j * 5 + 3, none⟩ = some (.int .i64 z1.snapped) ∧ w'.cell? ⟨ba, oa + j * 5 + 4, none⟩ = some (.slice Aa z1.maps.length ca) ∧
                      w'.cell? ⟨bb, ob + j * 5, none⟩ = some (.int .i64 z2.id) ∧ w'.cell? ⟨bb, ob + j * 5 + 1, none⟩ = some (.int .i64 z2.tx) ∧ w'.cell? ⟨bb, ob + j * 5 + 2, none⟩ = some (.int .i64 z2.made) ∧ w'.cell? ⟨bb, ob + j * 5 + 3, none⟩ = some (.int .i64 z2.snapped) ∧ w'.cell? ⟨bb, ob + j * 5 + 4, none⟩ = some (.slice Ab z2.maps.length cb)) (go_keep)
                    (first | (go_at_call 18; refine HSM.out.mono ?_; rintro x w2 ⟨rfl, hB4⟩; have hKK : ∀ b o, b < wr.heap.size → w2.cell? ⟨b, o, none⟩ = wr.cell? ⟨b, o, none⟩ := fun b o hb => hB4.cell (p := ⟨b, o, none⟩) hb; have i1 := (hKK _ _ hp1r.lt).trans x4; have i2 := (hKK _ _ hp2r.lt).trans y4; have j0 := (hKK _ _ hba2).trans a0; have j1 := (hKK _ _ hba2).trans a1; have j2 := (hKK _ _ hba2).trans a2; have j3 := (hKK _ _ hba2).trans a3; have j4 := (hKK _ _ hba2).trans a4; have m0 := (hKK _ _ hbb2).trans c0; have m1 := (hKK _ _ hbb2).trans c1; have m2 := (hKK _ _ hbb2).trans c2; have m3 := (hKK _ _ hbb2).trans c3; have m4 := (hKK _ _ hbb2).trans c4))
                  go_wp2_with fail
                  refine bodyPost_ret (results_tmp rfl _ _ _) rfl ?_
                  exact ⟨by rw [HEQ.out, HE.out]; rfl, hBw.drew.trans (hB4.mono (by show w.heap.size ≤ wr.heap.size; omega))⟩
              · have he : d.devs = e.devs := eq_of_nth dev0 (by rw [HA.out, HL.out]) (fun m hm => HS.out m (by rw [HA.out] at hm; omega))
                have HE := Lib.hid (decide_eq_true he)
                clear he HS
                go_wp2_with fail
                go_ret
                exact ⟨by rw [HEQ.out, HE.out]; rfl, hBw⟩
          · have HE : Hid (decide (d = e) = false) := Lib.hid (decide_eq_false (fun x => g5 (by rw [x])))
            have b1 : (d.tx != e.tx) = false := by simp [g1]
            have b2 : (d.time != e.time) = false := by simp [g2]
            have b3 : (d.unit != e.unit) = false := by simp [g3]
            have b4 : (d.data != e.data) = false := by simp [g4]
            have b5 : ((d.devs.length : Int) != (e.devs.length : Int)) = true := by simp; omega
            clear HD g1 g2 g3 g4 g5
            go_enter Tryz.func8, Tryz.ntmps8
            go_wp2
            go_ret
            exact ⟨by rw [HE.out]; rfl, hB0⟩
        · have HE : Hid (decide (d = e) = false) := Lib.hid (by rw [HD.out]; simp [g4])
          have b1 : (d.tx != e.tx) = false := by simp [g1]
          have b2 : (d.time != e.time) = false := by simp [g2]
          have b3 : (d.unit != e.unit) = false := by simp [g3]
          have b4 : (d.data != e.data) = true := by simp [g4]
          clear HD g1 g2 g3 g4
          go_enter Tryz.func8, Tryz.ntmps8
          go_wp2
          go_ret
          exact ⟨by rw [HE.out]; rfl, hB0⟩
      · have HE : Hid (decide (d = e) = false) := Lib.hid (by rw [HD.out]; simp [g3])
        have b1 : (d.tx != e.tx) = false := by simp [g1]
        have b2 : (d.time != e.time) = false := by simp [g2]
        have b3 : (d.unit != e.unit) = true := by simp [g3]
        clear HD g1 g2 g3
        go_enter Tryz.func8, Tryz.ntmps8
        go_wp2
        go_ret
        exact ⟨by rw [HE.out]; rfl, hB0⟩
    · have HE : Hid (decide (d = e) = false) := Lib.hid (by rw [HD.out]; simp [g2])
      have b1 : (d.tx != e.tx) = false := by simp [g1]
      have b2 : (d.time != e.time) = true := by simp [g2]
      clear HD g1 g2
      go_enter Tryz.func8, Tryz.ntmps8
      go_wp2
      go_ret
      exact ⟨by rw [HE.out]; rfl, hB0⟩
  · have HE : Hid (decide (d = e) = false) := Lib.hid (by rw [HD.out]; simp [g1])
    have b1 : (d.tx != e.tx) = true := by simp [g1]
    clear HD g1
    go_enter Tryz.func8, Tryz.ntmps8
    go_wp2
    go_ret
    exact ⟨by rw [HE.out]; rfl, hB0⟩
end Go.Proofs.YtcdfbpdejbpgjaaGreat

/- scantlinglaw52.MergeDevices says yes of every input. Condition: the numbers fit into Go's int. -/
namespace Go.Proofs.YtcdfbpdejbpgjaaGreat
open Go.RowKit
attribute [local go_sem] Oper.semAt_some
set_option linter.unusedSimpArgs false
set_option linter.unusedVariables false

theorem fewN_lens {p : Pool} (h : fewN p = 1) : p.devs.length ≤ 200 ∧ ∀ k, k < p.devs.length → (nth dev0 p.devs k).maps.length ≤ 2000 := by
  have hf : fewB p = true := by
    unfold fewN at h
    split at h
    · assumption
    · cases h
  simp only [fewB, decide_eq_true_eq] at hf
  obtain ⟨hpn, hpc⟩ := hf
  refine ⟨hpn, fun k hk => ?_⟩
  have h1 := countL_take p.devs k hk
  have h2 := countL_take_le p.devs (k + 1)
  have h3 := countL_nonneg (p.devs.take k)
  unfold Pool.count at hpc
  omega
theorem applies_model (w : World) (v : Value) (p : Pool) (id : Int) (h : IsPool w (Lt w.heap.size) v p) (hok : p.ok) : AppliesAs 11 w v p ⟨1, id, 0, 0⟩ := by
  intro w' hB
  have hp' : IsPool w' (Lt w.heap.size) v p := pool_keep h (fun _ h => h) (keep_below hB (fun _ h => h))
  have hS : ∀ b, Lt w.heap.size b → b < w'.heap.size := fun b hb => Nat.lt_of_lt_of_le hb hB.size
  by_cases he : (applyF p ⟨1, id, 0, 0⟩).1 = 0
  · obtain ⟨hc, h2, _⟩ := made_is he
    have hd : doF p ⟨1, id, 0, 0⟩ = createF p ⟨1, id, 0, 0⟩ := by unfold doF; rw [if_pos rfl]
    refine (apply_done w' _ v p ⟨1, id, 0, 0⟩ 45 0 hS hp' hok hc (by rw [kfind, if_pos rfl]) (enters_of Tryz.func45 (by kernel_rfl) rfl) (fun w'' base g hO hb => by rw [hd]; exact create_any w'' base g p _ hO hc hb) h2).mono fun e w'' ho => ⟨?_, fun _ => ho⟩
    obtain ⟨A, c, M, rfl, ho, hB2⟩ := ho
    exact ⟨_, by rw [he], OwnP.isp ho, hB2⟩
  · exact (apply_any w' _ v p ⟨1, id, 0, 0⟩ hS hp' hok).mono fun e w'' h => ⟨h, fun h0 => absurd h0 he⟩
theorem applies_ref (w : World) (v : Value) (p : Pool) (id : Int) (h : IsPool w (Lt w.heap.size) v p) (hok : p.ok) : AppliesAs 14 w v p ⟨1, id, 0, 0⟩ := by
  intro w' hB
  have hp' : IsPool w' (Lt w.heap.size) v p := pool_keep h (fun _ h => h) (keep_below hB (fun _ h => h))
  exact rapply_both w' _ v p ⟨1, id, 0, 0⟩ (fun b hb => Nat.lt_of_lt_of_le hb hB.size) hp' hok
theorem finds_prog (w : World) (v : Value) (p : Pool) (h : IsPool w (Lt w.heap.size) v p) (hl : p.devs.length ≤ 200 ∧ ∀ k, k < p.devs.length → (nth dev0 p.devs k).maps.length ≤ 2000) : FindsAs 12 w v p := by
  intro w' id hB
  have hp' : IsPool w' (Lt w.heap.size) v p := pool_keep h (fun _ h => h) (keep_below hB (fun _ h => h))
  exact find_any w' _ v p id (fun b hb => Nat.lt_of_lt_of_le hb hB.size) hp' (by omega) (fun k hk => by have := hl.2 k hk; omega)
theorem finds_ref (w : World) (v : Value) (p : Pool) (h : IsPool w (Lt w.heap.size) v p) (hl : p.devs.length ≤ 200) : FindsAs 15 w v p := by
  intro w' id hB
  have hp' : IsPool w' (Lt w.heap.size) v p := pool_keep h (fun _ h => h) (keep_below hB (fun _ h => h))
  refine (rfind_any w' _ v p id (fun b hb => Nat.lt_of_lt_of_le hb hB.size) hp' (by omega)).mono ?_
  rintro e w'' ⟨v', he, hd, hB2⟩
  exact ⟨v', he, hd.keep (fun b hb => Nat.lt_of_lt_of_le hb (Nat.le_trans hB.size hB2.size)) Keep.refl, hB2⟩
theorem overs_prog : OversAs 9 := fun w' va vb a b h1 h2 h3 h4 => over_any w' (Lt w'.heap.size) va vb a b (fun _ h => h) h1 h2 h3 h4
theorem overs_ref : OversAs 16 := fun w' va vb a b h1 h2 h3 h4 => rover_any w' (Lt w'.heap.size) va vb a b (fun _ h => h) h1 h2 h3 h4
theorem counts_prog (w : World) (v : Value) (p : Pool) (h : IsPool w (Lt w.heap.size) v p) : CountsAs 13 w v p := by
  intro w' hB hc
  have hp' : IsPool w' (Lt w.heap.size) v p := pool_keep h (fun _ h => h) (keep_below hB (fun _ h => h))
  exact count_any w' _ v p (fun b hb => Nat.lt_of_lt_of_le hb hB.size) hp' (by have := pool_len hc; omega) (by have := (fit_iff.1 hc).2.2.1; omega)
theorem counts_ref (w : World) (v : Value) (p : Pool) (h : IsPool w (Lt w.heap.size) v p) : CountsAs 17 w v p := by
  intro w' hB hc
  have hp' : IsPool w' (Lt w.heap.size) v p := pool_keep h (fun _ h => h) (keep_below hB (fun _ h => h))
  exact rcount_any w' _ v p (fun b hb => Nat.lt_of_lt_of_le hb hB.size) hp' (by have := pool_len hc; omega) (by have := (fit_iff.1 hc).2.2.1; omega)
theorem setMaps_lens (q : Pool) (k : Nat) (l : List Mp) (hk : k < q.devs.length) (h1 : ∀ j, j < q.devs.length → (nth dev0 q.devs j).maps.length ≤ 16384) (h2 : l.length ≤ 32768) : (setMaps q k l).devs.length = q.devs.length ∧ ∀ j, j < (setMaps q k l).devs.length → (nth dev0 (setMaps q k l).devs j).maps.length ≤ 32768 := by
  refine ⟨len_setMaps _ _ _, fun j hj => ?_⟩
  rw [len_setMaps] at hj
  show (nth dev0 (q.devs.set k _) j).maps.length ≤ 32768
  rw [nthG_set dev0 _ k j _ hk]
  split
  · exact h2
  · have := h1 j hj; omega
theorem device_len (p : Pool) (bs tp id : Int) : (deviceF p bs tp id).2.devs.length ≤ 4096 ∧ ∀ j, j < (deviceF p bs tp id).2.devs.length → (nth dev0 (deviceF p bs tp id).2.devs j).maps.length ≤ 32768 := by
  unfold deviceF
  split
  · exact ⟨by simp [pool0], fun j hj => by simp [pool0] at hj⟩
  · split
    · exact ⟨by simp [pool0], fun j hj => by simp [pool0] at hj⟩
    · split
      · exact ⟨by simp [pool0], fun j hj => by simp [pool0] at hj⟩
      · rename_i he _ _
        obtain ⟨hc, _, hq, hk, _, _⟩ := made_is (by simpa using he : (applyF p ⟨1, id, 0, 0⟩).1 = 0)
        obtain ⟨_, a2⟩ := chk_dev (id := bs) (fit_iff.1 hc)
        obtain ⟨_, b2⟩ := chk_dev (id := tp) (fit_iff.1 hc)
        have hle : (overD p bs tp).length ≤ (findD p.devs bs).maps.length + (findD p.devs tp).maps.length := mergeO_le _ _ _ (Nat.le_refl _)
        have h := setMaps_lens _ (dpos p id) (overD p bs tp) hk (fun j hj => maps_len (fit_iff.2 hq) hj) (by omega)
        exact ⟨by rw [h.1]; exact pool_len (fit_iff.2 hq), h.2⟩
/-- What the law finds. -/
def DevAhead (n : Nat) (w w1 : World) (v : Value) (p : Pool) (bs tp id : Int) (A : Option Addr) (c : Nat) : Prop :=
  ∀ w', Below w1.heap.size w1 w' → Below w.heap.size w w' ∧ PBox w' w.heap.size p A n c ∧ w.heap.size + 1 ≤ w'.heap.size ∧
    (Calls Tryz.prog 4 #[v] w' fun e w2 => e = .returned (.int .i64 (fewN p)) ∧ Below w'.heap.size w' w2) ∧
    (fewN p = 1 → Calls Tryz.prog 6 #[v, .int .i64 bs, .int .i64 tp, .int .i64 id] w' (ApIs w' (deviceF p bs tp id))) ∧
    (fewN p = 1 → Calls Tryz.prog 7 #[v, .int .i64 bs, .int .i64 tp, .int .i64 id] w' (ApIs w' (deviceF p bs tp id)))
theorem dev_ahead {w : World} {v : Value} {p : Pool} {bs tp id : Int} {A : Option Addr} {c : Nat} (h1 : IsPool w (Lt w.heap.size) v p) (hok : p.ok) : DevAhead p.devs.length w (w.alloc (poolBox p A p.devs.length c)) v p bs tp id A c := by
  intro w' hB
  have h0 : Below w.heap.size w w' := ((Below.refl w.heap.size w).alloc (Nat.le_refl _) (poolBox p A p.devs.length c)).trans (hB.mono (by simp))
  have hlt : ∀ b, Lt w.heap.size b → b < w'.heap.size := fun b hb => Nat.lt_of_lt_of_le hb h0.size
  have hz := hB.size
  simp only [World.size_alloc] at hz
  have hp0 : IsPool w' (Lt w.heap.size) v p := h1.below h0 (fun _ h => h)
  have hp' : IsPool w' (Lt w'.heap.size) v p := pool_keep hp0 (fun b hb => hlt b hb) Keep.refl
  exact ⟨h0, box_up (PBox.new w p A p.devs.length c) hB, hz, few_any w' (Lt w.heap.size) v p hlt hp0 hok,
    fun hf => mdevice_any w' v p bs tp id hp' hok (applies_model w' v p id hp' hok) (finds_prog w' v p hp' (fewN_lens hf)) overs_prog (counts_prog w' v p hp'),
    fun hf => rmdevice_any w' v p bs tp id hp' hok (applies_ref w' v p id hp' hok) (finds_ref w' v p hp' (fewN_lens hf).1) overs_ref (counts_ref w' v p hp')⟩
set_option maxRecDepth 100000 in
set_option maxHeartbeats 1600000 in
theorem mergeDevices_walk (w : World) (v : Value) (p : Pool) (bs tp id : Int) (h1 : IsPool w (Lt w.heap.size) v p) (hok : p.ok) :
    Calls Tryz.prog 3 #[v, .int .i64 bs, .int .i64 tp, .int .i64 id] w fun e w' => e = .returned (.bool true) ∧ Below w.heap.size w w' := by
  obtain ⟨A, c, hv⟩ : ∃ A c, v = .agg #[.int .i64 p.tx, .int .i64 p.time, .int .i64 p.unit, .int .i64 p.data, .slice A p.devs.length c] := by obtain ⟨A, c, h, _⟩ := h1; exact ⟨A, c, h⟩
  have hah := dev_ahead (bs := bs) (tp := tp) (id := id) (A := A) (c := c) h1 hok
  dsimp only [poolBox] at hah
  have HAH := Lib.hid hah
  subst hv
  have hrl := device_len p bs tp id
  have hcs : fewN p = 0 ∨ fewN p = 1 := by
    unfold fewN
    split
    · exact .inr rfl
    · exact .inl rfl
  clear h1 hok hah
  unfold DevAhead at HAH
  generalize deviceF p bs tp id = r at *
  have HSM := Lib.hid (fun (w' : World) (v1 v2 : Value) (h1 : IsPool w' (Lt w'.heap.size) v1 r.2) (h2 : IsPool w' (Lt w'.heap.size) v2 r.2) => rsamePool_any w' (Lt w'.heap.size) (Lt w'.heap.size) v1 v2 r.2 r.2 (fun _ h => h) (fun _ h => h) h1 h2 (by omega) (fun k hk => by have := hrl.2 k hk; omega))
  have hqq : decide (r.2 = r.2) = true := decide_eq_true rfl
  rw [hqq] at HSM
  clear hqq hrl
  generalize hl0 : p.devs.length = n at *
  clear hl0
  rcases hcs with hf | hf
  · rw [hf] at HAH
    clear hf
    go_enter Tryz.func3, Tryz.ntmps3
    go_upto_region 1 with fail
    generalize w.alloc (.cells #[.int .i64 p.tx, .int .i64 p.time, .int .i64 p.unit, .int .i64 p.data, .slice A n c] 24) = w1 at *
    have hk1 := Below.refl w1.heap.size w1
    obtain ⟨x0, x1, x2, x3, x4⟩ := (HAH.out w1 hk1).2.1.cells
    go_wp2_with (first
      | (go_at_call 5; refine (lives52 _).mono ?_; rintro e w5 ⟨rfl, hB5⟩; have hk5 := hk2.trans (hB5.mono hk2.size))
      | (go_at_call 4; refine (HAH.out _ hk1).2.2.2.1.mono ?_; rintro e w2 ⟨rfl, hB2⟩; have hk2 := hk1.trans hB2))
    go_ret
    exact ⟨rfl, (HAH.out _ hk5).1⟩
  · have HD1 := Lib.hid (fun w' hB => (HAH.out w' hB).2.2.2.2.1 hf)
    have HD2 := Lib.hid (fun w' hB => (HAH.out w' hB).2.2.2.2.2 hf)
    have HFW := Lib.hid (fun w' hB => (HAH.out w' hB).2.2.2.1)
    rw [hf] at HFW
    clear hf
    obtain ⟨fe, Q⟩ := r
    dsimp only at *
    go_enter Tryz.func3, Tryz.ntmps3
    go_upto_region 1 with fail
    generalize w.alloc (.cells #[.int .i64 p.tx, .int .i64 p.time, .int .i64 p.unit, .int .i64 p.data, .slice A n c] 24) = w1 at *
    have hk1 := Below.refl w1.heap.size w1
    obtain ⟨x0, x1, x2, x3, x4⟩ := (HAH.out w1 hk1).2.1.cells
    go_upto_region 4 with (first
      | (go_at_call 6; refine (HD1.out _ hk2).mono ?_; rintro e w5 ⟨v5, rfl, ⟨A5, c5, rfl, hc5, hr5⟩, hB5⟩; have hk5 := hk2.trans (hB5.mono hk2.size))
      | (go_at_call 4; refine (HFW.out _ hk1).mono ?_; rintro e w2 ⟨rfl, hB2⟩; have hk2 := hk1.trans hB2; clear x0 x1 x2 x3 x4; obtain ⟨x0, x1, x2, x3, x4⟩ := (HAH.out _ hk2).2.1.cells))
    obtain ⟨w6, hw6⟩ : ∃ x, w5.alloc (.cells #[.int .i64 Q.tx, .int .i64 Q.time, .int .i64 Q.unit, .int .i64 Q.data, .slice A5 Q.devs.length c5] 24) = x := ⟨_, rfl⟩
    have hB6 : Below w5.heap.size w5 w6 := by rw [← hw6]; exact (Below.refl _ _).alloc (Nat.le_refl _) _
    have b6 : RBox w6 w5.heap.size (.int .i64 Q.tx) (.int .i64 Q.time) (.int .i64 Q.unit) (.int .i64 Q.data) (.slice A5 Q.devs.length c5) := by rw [← hw6]; exact heap_alloc_new w5 _
    rw [hw6]
    clear hw6 x0 x1 x2 x3 x4
    have hk6 := hk5.trans (hB6.mono hk5.size)
    have HI6 := Lib.hid (fun w' (hB' : Below w6.heap.size w6 w') => (pool_keep (S' := Lt w'.heap.size) (p := Q) ⟨A5, c5, rfl, hc5, hr5⟩ (fun b hb => show b < w'.heap.size by have := hb.2; have := hB6.size; have := hB'.size; omega) (keep_below (hB6.trans (hB'.mono hB6.size)) (fun b hb => hb.2))))
    clear hr5 hc5
    obtain ⟨x0, x1, x2, x3, x4⟩ := (HAH.out w6 hk6).2.1.cells
    go_upto_region 5 with (go_at_call 7; refine (HD2.out _ hk6).mono ?_; rintro e w7 ⟨v7, rfl, ⟨A7, c7, rfl, hc7, hr7⟩, hB7⟩; have hk7 := hk6.trans (hB7.mono hk6.size))
    obtain ⟨w8, hw8⟩ : ∃ x, w7.alloc (.cells #[.int .i64 Q.tx, .int .i64 Q.time, .int .i64 Q.unit, .int .i64 Q.data, .slice A7 Q.devs.length c7] 24) = x := ⟨_, rfl⟩
    have hB8 : Below w7.heap.size w7 w8 := by rw [← hw8]; exact (Below.refl _ _).alloc (Nat.le_refl _) _
    have b8 : RBox w8 w7.heap.size (.int .i64 Q.tx) (.int .i64 Q.time) (.int .i64 Q.unit) (.int .i64 Q.data) (.slice A7 Q.devs.length c7) := by rw [← hw8]; exact heap_alloc_new w7 _
    rw [hw8]
    clear hw8 x0 x1 x2 x3 x4
    have hk8 := hk7.trans (hB8.mono hk7.size)
    have hB68 := hB7.trans (hB8.mono hB7.size)
    have hI8 : IsPool w8 (Lt w8.heap.size) (.agg #[.int .i64 Q.tx, .int .i64 Q.time, .int .i64 Q.unit, .int .i64 Q.data, .slice A7 Q.devs.length c7]) Q := pool_keep (p := Q) ⟨A7, c7, rfl, hc7, hr7⟩ (fun b hb => show b < w8.heap.size from Nat.lt_of_lt_of_le hb.2 hB8.size) (keep_below hB8 (fun _ h => h.2))
    have HI8 := Lib.hid hI8
    clear hr7 hc7 hI8
    obtain ⟨x0, x1, x2, x3, x4⟩ := b8.cells
    obtain ⟨z0, z1, z2, z3, z4⟩ := cells5 (box_up b6 hB68)
    go_wp2_with (first
      | (go_at_call 5; refine (lives52 _).mono ?_; rintro e w10 ⟨rfl, hB10⟩; have hk10 := hk9.trans (hB10.mono hk9.size))
      | (go_at_call 8; refine (HSM.out w8 _ _ (HI6.out w8 hB68) HI8.out).mono ?_; rintro e w9 ⟨rfl, hB9⟩; have hk9 := hk8.trans (hB9.mono hk8.size)))
    go_ret
    exact ⟨rfl, (HAH.out _ hk10).1⟩
end Go.Proofs.YtcdfbpdejbpgjaaGreat

/- From an argument's reading to the words of Base: slices of structs of integers, nested slices, lengths within the reach. No condition: for any program. -/
namespace Go.Proofs.YtcdfbpdejbpgjaaGreat
open Go.RowKit Go.ChangeShapes Go.WideShapes Go.Deep

/-- Nothing that the datum holds is longer than the reach. -/
def Weighs {H : Type} (P : Program) (t : TypeId) (d : DataW H) : Prop := ∀ x ∈ d.weights P t, x ≤ reachBytes

theorem weightsAll_mem {H : Type} {P : Program} {e : TypeId} {d : DataW H} {x : Nat} : ∀ {l : List (DataW H)}, d ∈ l → x ∈ d.weights P e → x ∈ DataW.weightsAll P e l := by
  intro l
  induction l with
  | nil => intro h; cases h
  | cons a l ih =>
    intro h hx
    rw [DataW.weightsAll, List.mem_append]
    rcases List.mem_cons.1 h with rfl | h
    · exact .inl hx
    · exact .inr (ih h hx)
theorem weightsEach_mem {H : Type} {P : Program} {d : DataW H} {t : TypeId} {x : Nat} : ∀ {ts : List TypeId} {l : List (DataW H)} {i : Nat}, ts[i]? = some t → l[i]? = some d → x ∈ d.weights P t → x ∈ DataW.weightsEach P ts l := by
  intro ts
  induction ts with
  | nil => intro l i h; simp at h
  | cons a ts ih =>
    intro l i h hl hx
    cases l with
    | nil => simp at hl
    | cons b l =>
      rw [DataW.weightsEach, List.mem_append]
      cases i with
      | zero =>
        simp at h hl
        subst h hl
        exact .inl hx
      | succ i =>
        simp at h hl
        exact .inr (ih h hl hx)

/-- What the reading of a value of type t tells of its cells. -/
def Opens {α : Type} (P : Program) (t : TypeId) (R : Rel α) (ok : α → Prop) : Prop :=
  ∀ (H : Type) (enc : TypeId × Value → H) (w : World) (base : Nat) (spare : Nat → Bool) (held : Bool) (n : Nat) (cs : List Value) (y : DataW H × List MemPlace),
    DataW.trod enc P w base spare held n t cs = some y → Weighs P t y.1 → ∃ a, R w (Lt w.heap.size) cs a ∧ ok a

theorem in64_of_wf {n : Int} (h : (Lit.int .i64 n).wf = true) : In64 n := by
  have := bounds_i64 h
  unfold In64
  omega

/-- A slice as a relation on its one cell. -/
def RSl {α : Type} (R : Rel α) (size : Nat) (d : α) : Rel (List α) := fun w S cs l => ∃ v, cs = [v] ∧ IsSl R size d w S v l
theorem rsl_stable {α : Type} {R : Rel α} {size : Nat} {d : α} (h : Stable R) : Stable (RSl R size d) := by
  rintro w w' S S' cs l hs hk ⟨v, e, hv⟩
  exact ⟨v, e, hv.keep h hs hk⟩

theorem opens_slice {α : Type} {P : Program} {t e : TypeId} {R : Rel α} {ok : α → Prop} {size bytes : Nat} (d : α) (ht : P.underlying t = some (.slice e)) (hC : P.cellsOf e = size) (hsz : 0 < size) (hb : P.bytesOf e = bytes) (h : Opens P e R ok) :
    Opens P t (RSl R size d) (fun l => (∀ a ∈ l, ok a) ∧ l.length * bytes ≤ reachBytes) := by
  intro H enc w base spare held n cs y hy hw
  rcases open_slice ht hy with ⟨rfl, rfl⟩ | ⟨a, len, cap, m, n', D, Pl, rfl, _, hl, _, hm, rfl, hi⟩
  · exact ⟨[], ⟨_, rfl, IsSl.nil_⟩, by simp, by simp⟩
  · have hlm : len ≤ m := by rw [hm]; split <;> omega
    have hmem : ∀ i, i < len → D i ∈ (List.range len).map D := fun i hi => List.mem_map.2 ⟨i, List.mem_range.2 hi, rfl⟩
    have hwe : ∀ i, i < len → Weighs P e (D i) := by
      intro i hi x hx
      refine hw x ?_
      simp only [DataW.weights, ht]
      exact List.mem_cons_of_mem _ (List.mem_append_left _ (weightsAll_mem (hmem i hi) hx))
    have hlen : len * bytes ≤ reachBytes := by
      have := hw (((List.range len).map D).length + ((List.range (m - len)).map fun j => D (len + j)).length |>.mul (P.bytesOf e)) (by
        simp only [DataW.weights, ht]
        exact List.mem_cons_self)
      simp only [List.length_map, List.length_range, hb] at this
      exact Nat.le_trans (Nat.mul_le_mul_right _ (by omega)) this
    have hx : ∀ i, i < len → ∃ x : α, ∃ cs', w.cells? base (a.add (i * size)) size = some cs' ∧ R w (Lt w.heap.size) cs' x ∧ ok x := by
      intro i hil
      obtain ⟨cs', h1, h2⟩ := hi i (by omega)
      rw [hC] at h1
      obtain ⟨x, hx1, hx2⟩ := h H enc w base spare held n' cs' _ h2 (hwe i hil)
      exact ⟨x, cs', h1, hx1, hx2⟩
    haveI : Inhabited α := ⟨d⟩
    obtain ⟨f, hf⟩ := choose_lt hx
    refine ⟨(List.range len).map f, ⟨_, rfl, some a, cap, by simp, by simpa using hl, ?_⟩, ?_, by simpa using hlen⟩
    · intro h0
      simp only [List.length_map, List.length_range] at h0
      obtain ⟨cs0, h1, _, _⟩ := hf 0 h0
      obtain ⟨_, hl0, hc0⟩ := World.cells?_some h1
      have hcell : w.cell? (a.add (0 * size)) = cs0[0]? := by
        have := hc0 0 hsz
        simpa [Addr.add] using this
      obtain ⟨u, hu⟩ : ∃ u, cs0[0]? = some u := ⟨cs0[0]'(by omega), List.getElem?_eq_getElem (by omega)⟩
      rw [hu] at hcell
      have hcell' : w.cell? a = some u := by simpa [Addr.add] using hcell
      obtain ⟨b, off, spot⟩ := a
      obtain rfl : spot = none := World.cell?_spot hcell'
      refine ⟨b, off, rfl, World.block_lt_of_cell? w _ hcell', fun k hk => ?_⟩
      simp only [List.length_map, List.length_range] at hk
      obtain ⟨cs', g1, g2, _⟩ := hf k hk
      obtain ⟨_, g3, g4⟩ := World.cells?_some g1
      refine ⟨cs', g3, ?_, fun j u hu => ?_⟩
      · rw [nth_get d _ k (by simpa using hk)]
        simpa using g2
      · have hj : j < size := by
          have := (List.getElem?_eq_some_iff.1 hu).1
          omega
        have := g4 j hj
        rw [hu, add_add] at this
        have e1 : (⟨b, off, none⟩ : Addr).add (k * size + j) = ⟨b, off + k * size + j, none⟩ := by
          unfold Addr.add
          split
          · rename_i h0
            have : off = off + k * size + j := by omega
            rw [← this]
          · simp only [Addr.mk.injEq, and_true, true_and]; omega
        rw [e1] at this
        exact this
    · intro x hx
      obtain ⟨i, hi, rfl⟩ := List.mem_map.1 hx
      obtain ⟨_, _, _, g⟩ := hf i (List.mem_range.1 hi)
      exact g

/-- A struct of one-cell fields: each field's own reading. -/
theorem struct_fields {H : Type} {enc : TypeId × Value → H} {P : Program} {w : World} {base : Nat} {spare : Nat → Bool} {held : Bool} {n : Nat} {t : TypeId} {fs : Array Field} {cs : List Value} {y : DataW H × List MemPlace}
    (hs : P.underlying t = some (.struct fs)) (hone : oneCellFields P fs = true) (hC : P.cellsOf t = fs.size) (h : DataW.trod enc P w base spare held n t cs = some y) (hw : Weighs P t y.1) :
    cs.length = fs.size ∧ ∀ (i : Nat) (f : Field), fs[i]? = some f → ∃ u m z, cs[i]? = some u ∧ DataW.trod enc P w base spare held m f.type [u] = some z ∧ Weighs P f.type z.1 := by
  obtain ⟨xs, m, _, rfl, hlen, hxl, hf⟩ := DataW.trod_struct hs h
  rw [hC] at hlen
  refine ⟨hlen, fun i f hi => ?_⟩
  obtain ⟨ho, hk⟩ := hone_of hone i f hi
  have hil : i < fs.size := (Array.getElem?_eq_some_iff.1 hi).1
  have h1 := hf i f hi
  have hu : cs[i]? = some (cs[i]'(by omega)) := List.getElem?_eq_getElem (by omega)
  have hx : xs[i]? = some (xs[i]'(by omega)) := List.getElem?_eq_getElem (by omega)
  have hone' : (cs.drop i).take 1 = [cs[i]'(by omega)] := by
    rw [List.drop_eq_getElem_cons (by omega)]
    rfl
  rw [ho, hk, hone', hx] at h1
  refine ⟨_, m, _, hu, h1, fun x hxw => hw x ?_⟩
  simp only [DataW.weights, hs]
  refine weightsEach_mem (i := i) (t := f.type) (d := (xs[i]'(by omega)).1) ?_ ?_ hxw
  · rw [List.getElem?_map]
    have : fs.toList[i]? = some f := by simpa using hi
    rw [this]; rfl
  · rw [List.getElem?_map, hx]; rfl
theorem field_int {H : Type} {enc : TypeId × Value → H} {P : Program} {w : World} {base : Nat} {spare : Nat → Bool} {held : Bool} {n : Nat} {t : TypeId} {u : Value} {y : DataW H × List MemPlace} (ht : P.underlying t = some (.int .i64))
    (h : DataW.trod enc P w base spare held n t [u] = some y) : ∃ k, u = .int .i64 k ∧ In64 k := by
  obtain ⟨k, e, _, hw⟩ := DataW.trod_int ht h
  simp at e
  exact ⟨k, e, in64_of_wf hw⟩
/-- A struct of integers. -/
theorem opens_ints {P : Program} {t : TypeId} {fs : Array Field} (hs : P.underlying t = some (.struct fs)) (hone : oneCellFields P fs = true) (hC : P.cellsOf t = fs.size) (hf : ∀ (i : Nat) (f : Field), fs[i]? = some f → P.underlying f.type = some (.int .i64)) :
    Opens P t (fun _ _ cs (ns : List Int) => cs = ns.map (Value.int .i64) ∧ ns.length = fs.size) (fun ns => ∀ n ∈ ns, In64 n) := by
  intro H enc w base spare held n cs y hy hw
  obtain ⟨hlen, hx⟩ := struct_fields hs hone hC hy hw
  have hg : ∀ i, i < fs.size → ∃ k : Int, cs[i]? = some (.int .i64 k) ∧ In64 k := by
    intro i hi
    have hfi : fs[i]? = some fs[i] := by simp [hi]
    obtain ⟨u, m, z, hu, hz, _⟩ := hx i _ hfi
    obtain ⟨k, rfl, hk⟩ := field_int (hf i _ hfi) hz
    exact ⟨k, hu, hk⟩
  obtain ⟨f, hf'⟩ := choose_lt hg
  refine ⟨(List.range fs.size).map f, ⟨?_, by simp⟩, ?_⟩
  · apply List.ext_getElem?
    intro i
    by_cases hi : i < fs.size
    · rw [(hf' i hi).1]; simp [hi]
    · rw [List.getElem?_eq_none (by omega)]; simp [hi]
  · intro k hk
    obtain ⟨i, hi, rfl⟩ := List.mem_map.1 hk
    exact (hf' i (List.mem_range.1 hi)).2
theorem Opens.mono {α β : Type} {P : Program} {t : TypeId} {R : Rel α} {ok : α → Prop} {R' : Rel β} {ok' : β → Prop} (h : Opens P t R ok) (f : ∀ w S cs a, R w S cs a → ok a → ∃ b, R' w S cs b ∧ ok' b) : Opens P t R' ok' := by
  intro H enc w base spare held n cs y hy hw
  obtain ⟨a, ha, hoa⟩ := h H enc w base spare held n cs y hy hw
  exact f _ _ _ _ ha hoa
/-- A struct of four integers and a slice. -/
theorem opens_four {α : Type} {P : Program} {t ti ts : TypeId} {f0 f1 f2 f3 f4 : Field} {R : Rel (List α)} {ok : List α → Prop} (hs : P.underlying t = some (.struct #[f0, f1, f2, f3, f4])) (hone : oneCellFields P #[f0, f1, f2, f3, f4] = true) (hC : P.cellsOf t = 5)
    (h0 : f0.type = ti) (h1 : f1.type = ti) (h2 : f2.type = ti) (h3 : f3.type = ti) (h4 : f4.type = ts) (hi : P.underlying ti = some (.int .i64)) (h : Opens P ts R ok) :
    Opens P t (fun w S cs (x : Int × Int × Int × Int × List α) => ∃ v, cs = [.int .i64 x.1, .int .i64 x.2.1, .int .i64 x.2.2.1, .int .i64 x.2.2.2.1, v] ∧ R w S [v] x.2.2.2.2)
      (fun x => In64 x.1 ∧ In64 x.2.1 ∧ In64 x.2.2.1 ∧ In64 x.2.2.2.1 ∧ ok x.2.2.2.2) := by
  intro H enc w base spare held n cs y hy hw
  obtain ⟨hlen, hx⟩ := struct_fields hs hone hC hy hw
  obtain ⟨u0, _, _, e0, g0, _⟩ := hx 0 f0 rfl
  obtain ⟨u1, _, _, e1, g1, _⟩ := hx 1 f1 rfl
  obtain ⟨u2, _, _, e2, g2, _⟩ := hx 2 f2 rfl
  obtain ⟨u3, _, _, e3, g3, _⟩ := hx 3 f3 rfl
  obtain ⟨u4, _, _, e4, g4, w4⟩ := hx 4 f4 rfl
  subst h0
  obtain ⟨n0, rfl, k0⟩ := field_int hi g0
  rw [h1] at g1; rw [h2] at g2; rw [h3] at g3; rw [h4] at g4 w4
  obtain ⟨n1, rfl, k1⟩ := field_int hi g1
  obtain ⟨n2, rfl, k2⟩ := field_int hi g2
  obtain ⟨n3, rfl, k3⟩ := field_int hi g3
  obtain ⟨l, hr, hok⟩ := h H enc w base spare held _ [u4] _ g4 w4
  refine ⟨(n0, n1, n2, n3, l), ⟨u4, ?_, hr⟩, k0, k1, k2, k3, hok⟩
  match cs, hlen with
  | [c0, c1, c2, c3, c4], _ =>
    simp at e0 e1 e2 e3 e4
    subst e0 e1 e2 e3 e4
    rfl
end Go.Proofs.YtcdfbpdejbpgjaaGreat

/- What the readings of this program's types tell. No condition. -/
namespace Go.Proofs.YtcdfbpdejbpgjaaGreat
open Go.RowKit
theorem list3 {α : Type} {l : List α} (h : l.length = 3) : ∃ a b c, l = [a, b, c] := by
  match l, h with
  | [a, b, c], _ => exact ⟨a, b, c, rfl⟩
theorem opens_mp : Opens Tryz.prog 40 RMp Mp.ok :=
  (opens_ints Tryz.underlying40 (by kernel_rfl) (by kernel_rfl) (by
    intro i f h
    match i, h with
    | 0, h => simp at h; subst h; exact Tryz.underlying3
    | 1, h => simp at h; subst h; exact Tryz.underlying3
    | 2, h => simp at h; subst h; exact Tryz.underlying3
    | i + 3, h => simp at h)).mono (by
      rintro w S cs ns ⟨rfl, hl⟩ hn
      obtain ⟨a, b, c, rfl⟩ := list3 (by simpa using hl)
      exact ⟨⟨a, b, c⟩, rfl, hn a (by simp), hn b (by simp), hn c (by simp)⟩)
def MapsOk (l : List Mp) : Prop := (∀ m ∈ l, m.ok) ∧ l.length * 24 ≤ reachBytes
theorem MapsOk.len {l : List Mp} (h : MapsOk l) : l.length ≤ 5864062014805 := by have := h.2; unfold reachBytes at this; omega
theorem opens_maps : Opens Tryz.prog 34 (RSl RMp 3 mp0) MapsOk :=
  opens_slice mp0 Tryz.underlying34 (by kernel_rfl) (by omega) (by kernel_rfl) opens_mp
/-- What an argument's reading tells. -/
theorem Opens.arg {α : Type} {P : Program} {t : TypeId} {R : Rel α} {ok : α → Prop} (h : Opens P t R ok) {H : Type} {enc : TypeId × Value → H} {w : World} {base : Nat} {spare : Nat → Bool} {held : Bool} {v : Value} {d : DataW H} {p : List MemPlace}
    (ht : DataW.Trod enc P w base spare held t v d p) (hw : Weighs P t d) : ∃ a, R w (Lt w.heap.size) v.cells.toList a ∧ ok a := by
  obtain ⟨n, hn⟩ := ht
  exact h H enc w base spare held n _ _ hn hw
theorem weighs_of {H : Type} {P : Program} {ts : List TypeId} {ds : List (DataW H)} (h : (DataW.weightsEach P ts ds).all (· ≤ reachBytes) = true) {i : Nat} {t : TypeId} {d : DataW H} (ht : ts[i]? = some t) (hd : ds[i]? = some d) : Weighs P t d :=
  fun x hx => by simpa using List.all_eq_true.1 h x (weightsEach_mem ht hd hx)
end Go.Proofs.YtcdfbpdejbpgjaaGreat

/- What the readings of devices and pools tell. No condition. -/
namespace Go.Proofs.YtcdfbpdejbpgjaaGreat
open Go.RowKit
theorem MapsOk.dev {l : List Mp} (h : MapsOk l) : (∀ m ∈ l, m.ok) ∧ l.length ≤ 5864062014805 := ⟨h.1, h.len⟩
theorem opens_dev : Opens Tryz.prog 36 RDev Dev.ok :=
  (opens_four (ti := 3) Tryz.underlying36 (by kernel_rfl) (by kernel_rfl) rfl rfl rfl rfl rfl Tryz.underlying3 opens_maps).mono (by
    rintro w S cs ⟨a, b, c, d, l⟩ ⟨v, rfl, v', e, A, c', rfl, hc, hr⟩ ⟨o1, o2, o3, o4, o5⟩
    cases e
    exact ⟨⟨a, b, c, d, l⟩, ⟨A, c', rfl, hc, hr⟩, o1, o2, o3, o4, o5.1, o5.len⟩)
def DevsOk (l : List Dev) : Prop := (∀ d ∈ l, d.ok) ∧ l.length * 56 ≤ reachBytes
theorem DevsOk.len {l : List Dev} (h : DevsOk l) : l.length ≤ 5864062014805 := by have := h.2; unfold reachBytes at this; omega
theorem opens_devs : Opens Tryz.prog 22 (RSl RDev 5 dev0) DevsOk :=
  opens_slice dev0 Tryz.underlying22 (by kernel_rfl) (by omega) (by kernel_rfl) opens_dev
/-- The cells of a pool by value. -/
def RPool : Rel Pool := fun w S cs p => ∃ A c, cs = [.int .i64 p.tx, .int .i64 p.time, .int .i64 p.unit, .int .i64 p.data, .slice A p.devs.length c] ∧ p.devs.length ≤ c ∧ DevRow w S A p.devs
theorem opens_pool : Opens Tryz.prog 24 RPool Pool.ok :=
  (opens_four (ti := 3) Tryz.underlying24 (by kernel_rfl) (by kernel_rfl) rfl rfl rfl rfl rfl Tryz.underlying3 opens_devs).mono (by
    rintro w S cs ⟨a, b, c, d, l⟩ ⟨v, rfl, v', e, A, c', rfl, hc, hr⟩ ⟨o1, o2, o3, o4, o5⟩
    cases e
    exact ⟨⟨a, b, c, d, l⟩, ⟨A, c', rfl, hc, hr⟩, o1, o2, o3, o4, o5.1, o5.len⟩)
theorem RPool.is {w : World} {S : Nat → Prop} {cs : Array Value} {p : Pool} (h : RPool w S cs.toList p) : IsPool w S (.agg cs) p := by
  obtain ⟨A, c, e, hc, hr⟩ := h
  exact ⟨A, c, by rw [← e], hc, hr⟩
end Go.Proofs.YtcdfbpdejbpgjaaGreat
