/- scantlinglaw18.PoolTells says yes of every two pools. Condition: the numbers fit into Go's int, and no slice is longer than the reach. -/
import Derived.Test.YtlanffolgkpmkaaWAdds
import Derived.Test.YtlanffolgkpmkaaWCopy
import Derived.Test.YtlanffolgkpmkaaWSame4
import Derived.Test.YtlanffolgkpmkaaWLatest
import Derived.Test.YtlanffolgkpmkaaWRRefs
import Derived.Deep.RegionHeld3
namespace Go.Proofs.Ytlanffolgkpmkaa
open Go.RowKit
attribute [local go_sem] Oper.semAt_some

theorem maps_few {l : List Dev} {k : Nat} (h : k < l.length) : ((nth dev0 l k).maps.length : Int) ≤ countL l := by
  have h1 := countL_take l k h
  have h2 := countL_take_le l (k + 1)
  have h3 := countL_nonneg (l.take k)
  omega
theorem refsRes_length {p : Pool} : (refsRes p).length ≤ 65536 := by
  unfold refsRes
  by_cases h : poolChk p = 0
  · rw [if_pos h, refsOf_length]
    obtain ⟨q1, _⟩ := poolChk_parts h
    have hdat : 0 ≤ p.data ∧ p.data ≤ 65536 := by simp [headB] at q1; exact inB_iff.1 q1.2.2
    omega
  · rw [if_neg h]; simp
theorem Pool.maps_ok {p : Pool} (h : p.ok) (k : Nat) (hk : k < p.devs.length) : (nth dev0 p.devs k).maps.length ≤ 140737488355328 := by
  have := (h.dev hk).2.2.2.2.2
  omega
theorem findD_maps {l : List Dev} {id : Int} {n : Nat} (h : ∀ k, k < l.length → (nth dev0 l k).maps.length ≤ n) : (findD l id).maps.length ≤ n := by
  unfold findD
  cases hf : l.find? (fun d => d.id == id) with
  | none => simp [dev0]
  | some d =>
    have hm := List.mem_of_find?_eq_some hf
    obtain ⟨k, hk, rfl⟩ := List.getElem_of_mem hm
    have := h k hk
    rw [nth_get dev0 l k hk] at this
    exact this

set_option maxRecDepth 100000 in
set_option maxHeartbeats 4000000 in
theorem poolTells_walk (w : World) (v1 v2 : Value) (p q : Pool) (id : Int) (h1 : IsPool w (Lt w.heap.size) v1 p) (h2 : IsPool w (Lt w.heap.size) v2 q) (hok : p.ok) (hok2 : q.ok) :
    Calls Try.prog 5 #[v1, v2, .int .i64 id] w fun e w' => e = .returned (.bool true) ∧ Below w.heap.size w w' := by
  have hIP0 : ∀ w', Below w.heap.size w w' → IsPool w' (Lt w.heap.size) v1 p := fun w' hB => h1.below hB (fun _ h => h)
  have hIQ0 : ∀ w', Below w.heap.size w w' → IsPool w' (Lt w.heap.size) v2 q := fun w' hB => h2.below hB (fun _ h => h)
  obtain ⟨A, c, rfl, hc, hr⟩ := h1
  obtain ⟨B, d, rfl, hd, hr2⟩ := h2
  clear hc hr hd hr2
  have hpb0 : PBox ((w.alloc (poolBox p A p.devs.length c)).alloc (poolBox q B q.devs.length d)) w.heap.size p A p.devs.length c := (PBox.new w p A _ c).below (Below.alloc (Below.refl _ _) (Nat.le_refl _) _) (by simp)
  have hqb0 : PBox ((w.alloc (poolBox p A p.devs.length c)).alloc (poolBox q B q.devs.length d)) (w.heap.size + 1) q B q.devs.length d := by
    have := PBox.new (w.alloc (poolBox p A p.devs.length c)) q B q.devs.length d
    rw [World.size_alloc] at this
    exact this
  have hB01 : Below w.heap.size w ((w.alloc (poolBox p A p.devs.length c)).alloc (poolBox q B q.devs.length d)) := ((Below.refl _ _).alloc (Nat.le_refl _) _).alloc (by simp) _
  generalize hw1 : (w.alloc (poolBox p A p.devs.length c)).alloc (poolBox q B q.devs.length d) = w1 at *
  have hs1 : w1.heap.size = w.heap.size + 2 := by rw [← hw1]; simp
  have HW1 := Lib.hid hw1
  clear hw1
  have up : ∀ w', Below w1.heap.size w1 w' → Below w.heap.size w w' := fun w' hB => hB01.trans (hB.mono (by omega))
  have hIP : ∀ w', Below w1.heap.size w1 w' → IsPool w' (Lt w.heap.size) _ p := fun w' hB => hIP0 w' (up w' hB)
  have hIQ : ∀ w', Below w1.heap.size w1 w' → IsPool w' (Lt w.heap.size) _ q := fun w' hB => hIQ0 w' (up w' hB)
  have hlt : ∀ w', Below w1.heap.size w1 w' → ∀ b, Lt w.heap.size b → b < w'.heap.size := fun w' hB b hb => Nat.lt_of_lt_of_le hb (Below.size (up w' hB))
  have hP : ∀ w', Below w1.heap.size w1 w' → _ := fun w' hB => (hpb0.below hB hpb0.lt).cells
  have hQ : ∀ w', Below w1.heap.size w1 w' → _ := fun w' hB => (hqb0.below hB hqb0.lt).cells
  have hfewp := fun w' hB => few_any w' (Lt w.heap.size) _ p (hlt w' hB) (hIP w' hB) hok
  have hfewq := fun w' hB => few_any w' (Lt w.heap.size) _ q (hlt w' hB) (hIQ w' hB) hok2
  have HFP := Lib.hid hfewp
  have HFQ := Lib.hid hfewq
  have HUP := Lib.hid up
  have HP := Lib.hid hP
  have HQ := Lib.hid hQ
  have hk1 := Below.refl w1.heap.size w1
  have hk0 : Below w1.heap.size w1 ((w.alloc (poolBox p A p.devs.length c)).alloc (poolBox q B q.devs.length d)) := by rw [HW1.out]; exact hk1
  dsimp only [poolBox] at hk0
  clear hP hQ hfewp hfewq up hpb0 hqb0 hB01 hIP0 hIQ0
  by_cases hf : fewB p = true
  · have hf1 : fewN p = 1 := by unfold fewN; rw [if_pos hf]
    rw [hf1] at HFP
    by_cases hf' : fewB q = true
    · have hf2 : fewN q = 1 := by unfold fewN; rw [if_pos hf']
      rw [hf2] at HFQ
      simp only [fewB, decide_eq_true_eq] at hf hf'
      obtain ⟨hpn, hpc⟩ := hf
      obtain ⟨hqn, hqc⟩ := hf'
      have hpm : ∀ k, k < p.devs.length → (nth dev0 p.devs k).maps.length ≤ 2000 := fun k hk => by have := maps_few hk; unfold Pool.count at hpc; omega
      have hck := fun w' hB => check_any w' (Lt w.heap.size) _ p (hlt w' hB) (hIP w' hB) hok
      have hrck := fun w' hB => rcheck_any w' (Lt w.heap.size) _ p (hlt w' hB) (hIP w' hB) hok
      have hsm := fun w' hB => samePool_any w' (Lt w.heap.size) (Lt w.heap.size) _ _ p q (hlt w' hB) (hlt w' hB) (hIP w' hB) (hIQ w' hB) (by omega) (Pool.maps_ok hok)
      have hrsm := fun w' hB => rsamePool_any w' (Lt w.heap.size) (Lt w.heap.size) _ _ p q (hlt w' hB) (hlt w' hB) (hIP w' hB) (hIQ w' hB) (by omega) (Pool.maps_ok hok)
      have hct := fun w' hB => count_any w' (Lt w.heap.size) _ p (hlt w' hB) (hIP w' hB) (by omega) (by omega)
      have hrct := fun w' hB => rcount_any w' (Lt w.heap.size) _ p (hlt w' hB) (hIP w' hB) (by omega) (by omega)
      have hlat := fun w' hB => latest_any w' (Lt w.heap.size) _ p (hlt w' hB) (hIP w' hB) hok (by omega)
      have hrlat := fun w' hB => rlatest_any w' (Lt w.heap.size) _ p (hlt w' hB) (hIP w' hB) hok (by omega)
      have hfd := fun w' hB => find_any w' (Lt w.heap.size) _ p id (hlt w' hB) (hIP w' hB) (by omega) (fun k hk => by have := hpm k hk; omega)
      have hrfd := fun w' hB => rfind_any w' (Lt w.heap.size) _ p id (hlt w' hB) (hIP w' hB) (by omega)
      have hrf := fun w' hB => refs_any w' (Lt w.heap.size) _ p (hlt w' hB) (hIP w' hB) hok
      have hrrf := fun w' hB => rrefs_any w' (Lt w.heap.size) _ p (hlt w' hB) (hIP w' hB) hok
      have hcp := fun w' hB => copy_any w' (Lt w.heap.size) _ p (hlt w' hB) (hIP w' hB) (by omega) (fun k hk => by have := hpm k hk; omega)
      have hsc := fun w' S v hS h hB => rsamePool_any w' S (Lt w.heap.size) v _ p p hS (hlt w' hB) h (hIP w' hB) (by omega) (Pool.maps_ok hok)
      have hdl : (findD p.devs id).maps.length ≤ 140737488355328 := findD_maps (Pool.maps_ok hok)
      have HCK := Lib.hid hck
      have HRCK := Lib.hid hrck
      have HSM := Lib.hid hsm
      have HRSM := Lib.hid hrsm
      have HCT := Lib.hid hct
      have HRCT := Lib.hid hrct
      have HLAT := Lib.hid hlat
      have HRLAT := Lib.hid hrlat
      have HFD := Lib.hid hfd
      have HRFD := Lib.hid hrfd
      have HRF := Lib.hid hrf
      have HRRF := Lib.hid hrrf
      have HCP := Lib.hid hcp
      have HSC := Lib.hid hsc
      have HDL := Lib.hid hdl
      have HLT := Lib.hid hlt
      clear hck hrck hsm hrsm hct hrct hlat hrlat hfd hrfd hrf hrrf hcp hsc hdl hIP hIQ hlt hf1 hf2 hpm
      generalize decide (p = q) = eqpq at *
      generalize findB p.devs id = fb at *
      generalize findD p.devs id = fd at *
      generalize p.count = pc at *
      generalize p.latest = pl at *
      generalize poolChk p = pk at *
      go_enter Try.func5, Try.ntmps5
      go_wp2_with (first
        | (go_at_call 6; refine (HFQ.out _ hk2).mono ?_; rintro e w3 ⟨rfl, hB3⟩; have hk3 := hk2.trans (hB3.mono hk2.size); clear x0 x1 x2 x3 x4 y0 y1 y2 y3 y4; obtain ⟨x0, x1, x2, x3, x4⟩ := HP.out _ hk3; obtain ⟨y0, y1, y2, y3, y4⟩ := HQ.out _ hk3)
        | (go_at_call 6; refine (HFP.out _ hk0).mono ?_; rintro e w2 ⟨rfl, hB2⟩; have hk2 := hk0.trans (hB2.mono hk0.size); obtain ⟨x0, x1, x2, x3, x4⟩ := HP.out _ hk2; obtain ⟨y0, y1, y2, y3, y4⟩ := HQ.out _ hk2))
      have hk3d := hk3.drew
      go_region_held3 (fun w' => w'.cell? ⟨w.heap.size, 0, none⟩ = some (.int .i64 p.tx) ∧ w'.cell? ⟨w.heap.size, 1, none⟩ = some (.int .i64 p.time) ∧ w'.cell? ⟨w.heap.size, 2, none⟩ = some (.int .i64 p.unit) ∧ w'.cell? ⟨w.heap.size, 3, none⟩ = some (.int .i64 p.data) ∧ w'.cell? ⟨w.heap.size, 4, none⟩ = some (.slice A p.devs.length c) ∧ w'.cell? ⟨w.heap.size + 1, 0, none⟩ = some (.int .i64 q.tx) ∧ w'.cell? ⟨w.heap.size + 1, 1, none⟩ = some (.int .i64 q.time) ∧ w'.cell? ⟨w.heap.size + 1, 2, none⟩ = some (.int .i64 q.unit) ∧ w'.cell? ⟨w.heap.size + 1, 3, none⟩ = some (.int .i64 q.data) ∧ w'.cell? ⟨w.heap.size + 1, 4, none⟩ = some (.slice B q.devs.length d)) (go_keep)
        (first
          | (go_at_call 9; refine (HCK.out _ hk3d).mono ?_; rintro e w4 ⟨rfl, hB4⟩; have hk4 := hk3d.trans (hB4.mono hk3d.size); obtain ⟨x0, x1, x2, x3, x4⟩ := HP.out _ hk4; obtain ⟨y0, y1, y2, y3, y4⟩ := HQ.out _ hk4)
          | (go_at_call 13; refine (HRCK.out _ hk4).mono ?_; rintro e w5 ⟨rfl, hB5⟩; have hk5 := hk4.trans (hB5.mono hk4.size); obtain ⟨x0, x1, x2, x3, x4⟩ := HP.out _ hk5; obtain ⟨y0, y1, y2, y3, y4⟩ := HQ.out _ hk5)
          | (go_at_call 12; refine (HSM.out _ hk5).mono ?_; rintro e w6 ⟨rfl, hB6⟩; have hk6 := hk5.trans (hB6.mono hk5.size); obtain ⟨x0, x1, x2, x3, x4⟩ := HP.out _ hk6; obtain ⟨y0, y1, y2, y3, y4⟩ := HQ.out _ hk6)
          | (go_at_call 14; refine (HRSM.out _ hk6).mono ?_; rintro e w7 ⟨rfl, hB7⟩; have hk7 := hk6.trans (hB7.mono hk6.size); obtain ⟨x0, x1, x2, x3, x4⟩ := HP.out _ hk7; obtain ⟨y0, y1, y2, y3, y4⟩ := HQ.out _ hk7)
          | (go_at_call 10; refine (HCT.out _ hk7).mono ?_; rintro e w8 ⟨rfl, hB8⟩; have hk8 := hk7.trans (hB8.mono hk7.size); obtain ⟨x0, x1, x2, x3, x4⟩ := HP.out _ hk8; obtain ⟨y0, y1, y2, y3, y4⟩ := HQ.out _ hk8)
          | (go_at_call 15; refine (HRCT.out _ hk8).mono ?_; rintro e w9 ⟨rfl, hB9⟩; have hk9 := hk8.trans (hB9.mono hk8.size); obtain ⟨x0, x1, x2, x3, x4⟩ := HP.out _ hk9; obtain ⟨y0, y1, y2, y3, y4⟩ := HQ.out _ hk9)
          | (go_at_call 16; refine (HLAT.out _ hk9).mono ?_; rintro e w10 ⟨rfl, hB10⟩; have hk10 := hk9.trans (hB10.mono hk9.size); obtain ⟨x0, x1, x2, x3, x4⟩ := HP.out _ hk10; obtain ⟨y0, y1, y2, y3, y4⟩ := HQ.out _ hk10)
          | (go_at_call 17; refine (HRLAT.out _ hk10).mono ?_; rintro e w11 ⟨rfl, hB11⟩; have hk11 := hk10.trans (hB11.mono hk10.size); obtain ⟨x0, x1, x2, x3, x4⟩ := HP.out _ hk11; obtain ⟨y0, y1, y2, y3, y4⟩ := HQ.out _ hk11))
      go_wp2_with (first
        | (go_at_call 18; refine (HFD.out _ hk11).mono ?_; rintro e w12 ⟨v12, rfl, ⟨A12, c12, rfl, hc12, hm12⟩, hB12⟩; have hk12 := hk11.trans (hB12.mono hk11.size); clear x0 x1 x2 x3 x4 y0 y1 y2 y3 y4; obtain ⟨x0, x1, x2, x3, x4⟩ := HP.out _ hk12; have hlt12 : w.heap.size < w12.heap.size := by have := hk12.size; omega)
        | (go_at_call 19; refine (HRFD.out _ (hk12.alloc hk12.size (devBox fd A12 c12))).mono ?_; rintro e w14 ⟨v14, rfl, ⟨A14, c14, rfl, hc14, hm14⟩, hB14⟩; have hk14 := (hk12.alloc hk12.size (devBox fd A12 c12)).trans (hB14.mono (by have := hk12.size; simp; omega)); have hs14 : w12.heap.size + 1 ≤ w14.heap.size := (by simpa using hB14.size); have hd14 := (hB14.block w12.heap.size (by simp)).trans (heap_alloc_new w12 (devBox fd A12 c12)); have hm14' := (hm12.keep rmp_stable (fun _ h => h) (keep_alloc (fun _ h => h) (devBox fd A12 c12))).keep rmp_stable (fun _ h => h) (keep_below hB14 (fun b hb => (by have : b < w12.heap.size := hb; simp; omega))); clear x0 x1 x2 x3 x4; obtain ⟨x0, x1, x2, x3, x4⟩ := HP.out _ hk14; have hlt14 : w.heap.size < w14.heap.size := by omega))
      have hk15 := hk14.alloc hk14.size (devBox fd A14 c14)
      have hd15 := (Below.heap_alloc w14 (devBox fd A14 c14) w12.heap.size (by omega)).trans hd14
      have he15 := heap_alloc_new w14 (devBox fd A14 c14)
      have hs15 : (w14.alloc (devBox fd A14 c14)).heap.size = w14.heap.size + 1 := by simp
      have hm15 := hm14'.keep rmp_stable (fun _ h => h) (keep_alloc (fun b hb => by have : b < w12.heap.size := hb; omega) (devBox fd A14 c14))
      have hn15 := hm14.keep rmp_stable (fun _ h => h) (keep_alloc (fun b hb => by have : b < w.heap.size := hb; omega) (devBox fd A14 c14))
      dsimp only [devBox] at hk15 hd15 he15 hs15 hm15 hn15
      clear hd14 hm12 hm14 hm14' x0 x1 x2 x3 x4 hB14 hB12
      generalize (w14.alloc (.cells #[.int .i64 fd.id, .int .i64 fd.tx, .int .i64 fd.made, .int .i64 fd.snapped, .slice A14 fd.maps.length c14] 35)) = w15 at *
      have hde : ∀ w', Below w15.heap.size w15 w' → w'.cell? ⟨w12.heap.size, 0, none⟩ = some (.int .i64 fd.id) ∧ w'.cell? ⟨w12.heap.size, 1, none⟩ = some (.int .i64 fd.tx) ∧ w'.cell? ⟨w12.heap.size, 2, none⟩ = some (.int .i64 fd.made) ∧ w'.cell? ⟨w12.heap.size, 3, none⟩ = some (.int .i64 fd.snapped) ∧ w'.cell? ⟨w12.heap.size, 4, none⟩ = some (.slice A12 fd.maps.length c12) ∧ w'.cell? ⟨w14.heap.size, 0, none⟩ = some (.int .i64 fd.id) ∧ w'.cell? ⟨w14.heap.size, 1, none⟩ = some (.int .i64 fd.tx) ∧ w'.cell? ⟨w14.heap.size, 2, none⟩ = some (.int .i64 fd.made) ∧ w'.cell? ⟨w14.heap.size, 3, none⟩ = some (.int .i64 fd.snapped) ∧ w'.cell? ⟨w14.heap.size, 4, none⟩ = some (.slice A14 fd.maps.length c14) := by
        intro w' hB
        obtain ⟨a0, a1, a2, a3, a4⟩ := cells5 ((hB.block _ (by omega)).trans hd15)
        obtain ⟨b0, b1, b2, b3, b4⟩ := cells5 ((hB.block _ (by omega)).trans he15)
        exact ⟨a0, a1, a2, a3, a4, b0, b1, b2, b3, b4⟩
      have hsd : ∀ w', Below w15.heap.size w15 w' → Calls Try.prog 22 _ w' _ := fun w' hB => rsameDev_any w' (Lt w12.heap.size) (Lt w.heap.size) (devV fd A12 c12) (devV fd A14 c14) fd fd (fun b hb => by have := hB.size; have : b < w12.heap.size := hb; omega) (fun b hb => by have := hB.size; have : b < w.heap.size := hb; omega)
        ⟨A12, c12, rfl, hc12, hm15.keep rmp_stable (fun _ h => h) (keep_below hB (fun b hb => by have : b < w12.heap.size := hb; omega))⟩ ⟨A14, c14, rfl, hc14, hn15.keep rmp_stable (fun _ h => h) (keep_below hB (fun b hb => by have : b < w.heap.size := hb; omega))⟩ HDL.out
      dsimp only [devV] at hsd
      rw [decide_eq_true rfl] at hsd
      have HDE := Lib.hid hde
      have HSD := Lib.hid hsd
      have kk15 := Below.refl w15.heap.size w15
      obtain ⟨x0, x1, x2, x3, x4⟩ := HP.out _ hk15
      obtain ⟨d0, d1, d2, d3, d4, g0, g1, g2, g3, g4⟩ := HDE.out _ kk15
      clear hde hsd hm15 hn15 hd15 he15 hc12 hc14
      have hk15d := hk15.drew
      have kk15d := kk15.drew
      go_wp2_with fail
      go_region_held3 (fun w' => w'.cell? ⟨w.heap.size, 0, none⟩ = some (.int .i64 p.tx) ∧ w'.cell? ⟨w.heap.size, 1, none⟩ = some (.int .i64 p.time) ∧ w'.cell? ⟨w.heap.size, 2, none⟩ = some (.int .i64 p.unit) ∧ w'.cell? ⟨w.heap.size, 3, none⟩ = some (.int .i64 p.data) ∧ w'.cell? ⟨w.heap.size, 4, none⟩ = some (.slice A p.devs.length c) ∧ w'.cell? ⟨w12.heap.size, 0, none⟩ = some (.int .i64 fd.id) ∧ w'.cell? ⟨w12.heap.size, 1, none⟩ = some (.int .i64 fd.tx) ∧ w'.cell? ⟨w12.heap.size, 2, none⟩ = some (.int .i64 fd.made) ∧ w'.cell? ⟨w12.heap.size, 3, none⟩ = some (.int .i64 fd.snapped) ∧ w'.cell? ⟨w12.heap.size, 4, none⟩ = some (.slice A12 fd.maps.length c12) ∧ w'.cell? ⟨w14.heap.size, 0, none⟩ = some (.int .i64 fd.id) ∧ w'.cell? ⟨w14.heap.size, 1, none⟩ = some (.int .i64 fd.tx) ∧ w'.cell? ⟨w14.heap.size, 2, none⟩ = some (.int .i64 fd.made) ∧ w'.cell? ⟨w14.heap.size, 3, none⟩ = some (.int .i64 fd.snapped) ∧ w'.cell? ⟨w14.heap.size, 4, none⟩ = some (.slice A14 fd.maps.length c14)) (go_keep)
        (first
          | (go_at_call 8; refine (HRF.out _ hk15d).mono ?_; rintro e w16 ⟨v16, rfl, hi16, hB16⟩; have hk16 := hk15d.trans (hB16.mono hk15d.size); have kk16 := kk15d.trans (hB16.mono kk15d.size); obtain ⟨x0, x1, x2, x3, x4⟩ := HP.out _ hk16; obtain ⟨d0, d1, d2, d3, d4, g0, g1, g2, g3, g4⟩ := HDE.out _ kk16)
          | (go_at_call 21; refine (HRRF.out _ hk16).mono ?_; rintro e w17 ⟨v17, rfl, hi17, hB17⟩; have hk17 := hk16.trans (hB17.mono hk16.size); have kk17 := kk16.trans (hB17.mono kk16.size); obtain ⟨x0, x1, x2, x3, x4⟩ := HP.out _ hk17; obtain ⟨d0, d1, d2, d3, d4, g0, g1, g2, g3, g4⟩ := HDE.out _ kk17)
          | (go_at_call 20; refine (sameI_any w17 (Lt w17.heap.size) _ _ _ _ (hi16.keep (flat_stable _) (fun b hb => Nat.lt_of_lt_of_le hb.2 hB17.size) (keep_below hB17 (fun b hb => hb.2))) (hi17.keep (flat_stable _) (fun b hb => hb.2) Keep.refl) (Nat.le_trans refsRes_length (by omega))).mono ?_; rw [decide_eq_true rfl]; rintro e w18 ⟨rfl, m18, e18⟩; have hB18 : Below w17.heap.size w17 w18 := e18 ▸ (⟨rfl, rfl, rfl, Nat.le_refl _, fun _ _ => rfl⟩ : Below w17.heap.size w17 (w17.drewN m18)); clear e18; have hk18 := hk17.trans (hB18.mono hk17.size); have kk18 := kk17.trans (hB18.mono kk17.size); obtain ⟨x0, x1, x2, x3, x4⟩ := HP.out _ hk18; obtain ⟨d0, d1, d2, d3, d4, g0, g1, g2, g3, g4⟩ := HDE.out _ kk18)
          | (go_at_call 22; refine (HSD.out _ kk18).mono ?_; rintro e w19 ⟨rfl, hB19⟩; have hk19 := hk18.trans (hB19.mono hk18.size); have kk19 := kk18.trans (hB19.mono kk18.size); obtain ⟨x0, x1, x2, x3, x4⟩ := HP.out _ hk19; obtain ⟨d0, d1, d2, d3, d4, g0, g1, g2, g3, g4⟩ := HDE.out _ kk19)
          | (go_at_call 11; refine (HCP.out _ hk19).mono ?_; rintro e w20 ⟨v20, rfl, hi20, hB20⟩; have hk20 := hk19.trans (hB20.mono hk19.size); have kk20 := kk19.trans (hB20.mono kk19.size); obtain ⟨x0, x1, x2, x3, x4⟩ := HP.out _ hk20; obtain ⟨d0, d1, d2, d3, d4, g0, g1, g2, g3, g4⟩ := HDE.out _ kk20)
          | (go_at_call 14; refine (HSC.out w20 (fun b => Btw w19.heap.size w20.heap.size b ∧ Thaw w20 b) v20 (fun b hb => hb.1.2) hi20 hk20).mono ?_; (try simp only [decide_true]); rintro e w21 ⟨rfl, hB21⟩; have hk21 := hk20.trans (hB21.mono hk20.size); have kk21 := kk20.trans (hB21.mono kk20.size); obtain ⟨x0, x1, x2, x3, x4⟩ := HP.out _ hk21; obtain ⟨d0, d1, d2, d3, d4, g0, g1, g2, g3, g4⟩ := HDE.out _ kk21)
          | (go_at_call 7; refine (lives18 _).mono ?_; rintro e w22 ⟨rfl, hB22⟩; have hk22 := hk21.trans (hB22.mono hk21.size); have kk22 := kk21.trans (hB22.mono kk21.size); obtain ⟨x0, x1, x2, x3, x4⟩ := HP.out _ hk22; obtain ⟨d0, d1, d2, d3, d4, g0, g1, g2, g3, g4⟩ := HDE.out _ kk22))
      go_wp2_with fail
      go_ret
      exact ⟨rfl, HUP.out _ hk22⟩
    · have hf2 : fewN q = 0 := by unfold fewN; rw [if_neg hf']
      rw [hf2] at HFQ
      clear hf1 hf2 hf hf' hIP hIQ hlt
      go_enter Try.func5, Try.ntmps5
      go_wp2_with (first
        | (go_at_call 6; refine (HFQ.out _ hk2).mono ?_; rintro e w3 ⟨rfl, hB3⟩; have hk3 := hk2.trans (hB3.mono hk2.size))
        | (go_at_call 6; refine (HFP.out _ hk0).mono ?_; rintro e w2 ⟨rfl, hB2⟩; have hk2 := hk0.trans (hB2.mono hk0.size); obtain ⟨x0, x1, x2, x3, x4⟩ := HP.out _ hk2; obtain ⟨y0, y1, y2, y3, y4⟩ := HQ.out _ hk2)
        | (go_at_call 7; refine (lives18 _).mono ?_; rintro e w5 ⟨rfl, hB5⟩; have hk5 := hk3.trans (hB5.mono hk3.size)))
      go_ret
      exact ⟨rfl, HUP.out _ hk5⟩
  · have hf1 : fewN p = 0 := by unfold fewN; rw [if_neg hf]
    rw [hf1] at HFP
    clear hf hf1 hIP hIQ hlt
    go_enter Try.func5, Try.ntmps5
    go_wp2_with (first
      | (go_at_call 6; refine (HFP.out _ hk0).mono ?_; rintro e w2 ⟨rfl, hB2⟩; have hk2 := hk0.trans (hB2.mono hk0.size); obtain ⟨x0, x1, x2, x3, x4⟩ := HP.out _ hk2; obtain ⟨y0, y1, y2, y3, y4⟩ := HQ.out _ hk2)
      | (go_at_call 7; refine (lives18 _).mono ?_; rintro e w5 ⟨rfl, hB5⟩; have hk5 := hk2.trans (hB5.mono hk2.size)))
    go_ret
    exact ⟨rfl, HUP.out _ hk5⟩
end Go.Proofs.Ytlanffolgkpmkaa
