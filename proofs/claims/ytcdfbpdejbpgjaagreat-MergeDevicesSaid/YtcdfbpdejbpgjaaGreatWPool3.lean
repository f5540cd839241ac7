/- pool.Check returns poolChk. Condition: the numbers fit into Go's int, and no slice is longer than the reach. -/
import Derived.Test.YtcdfbpdejbpgjaaGreatWPool2
import Derived.Test.YtcdfbpdejbpgjaaGreatWCount
namespace Go.Proofs.YtcdfbpdejbpgjaaGreat
open Go.RowKit

theorem count_small {p : Pool} (h : p.ok) (hl : p.devs.length ≤ 4096) : p.count ≤ 4611686018427387904 := by
  have h1 := countL_bound (c := 5864062014805) p.devs (fun d hd => (h.2.2.2.2.1 d hd).2.2.2.2.2)
  have h2 : p.devs.length * 5864062014805 ≤ 4096 * 5864062014805 := Nat.mul_le_mul_right _ hl
  unfold Pool.count
  omega

set_option maxRecDepth 100000 in
set_option maxHeartbeats 1600000 in
theorem check_any (w : World) (S : Nat → Prop) (v : Value) (p : Pool) (hS : ∀ b, S b → b < w.heap.size) (h : IsPool w S v p) (hok : p.ok) :
    Calls Tryz.prog 24 #[v] w fun e w' => e = .returned (.int .i64 (poolChk p)) ∧ Below w.heap.size w w' := by
  have hp0 := h
  obtain ⟨A, c, rfl, hc, hr⟩ := h
  have hnl := hok.2.2.2.2.2
  have hkb := fun k (hk : k < p.devs.length) => (hok.dev hk).2.2.2.2.2
  generalize hl0 : p.devs.length = n at *
  have hl := Lib.hid hl0
  clear hl0
  have HKB := Lib.hid hkb
  clear hkb
  have hw1 : Below (w.heap.size + 1) (w.alloc (.cells #[.int .i64 p.tx, .int .i64 p.time, .int .i64 p.unit, .int .i64 p.data, .slice A n c] 24)) ((w.alloc (.cells #[.int .i64 p.tx, .int .i64 p.time, .int .i64 p.unit, .int .i64 p.data, .slice A n c] 24)).alloc (.cells #[.int .i64 p.time] 3)) := (Below.refl _ _).alloc (by simp) _
  have hw0 : Below w.heap.size w (w.alloc (.cells #[.int .i64 p.tx, .int .i64 p.time, .int .i64 p.unit, .int .i64 p.data, .slice A n c] 24)) := (Below.refl _ _).alloc (Nat.le_refl _) _
  have ht := times_any ((w.alloc (.cells #[.int .i64 p.tx, .int .i64 p.time, .int .i64 p.unit, .int .i64 p.data, .slice A n c] 24)).alloc (.cells #[.int .i64 p.time] 3))
    (Lt (w.heap.size + 2)) (.slice (some ⟨w.heap.size + 1, 0, none⟩) 1 1) p.tx [p.time] (by simp) (IsSl.block (fun _ => rfl) (heap_alloc2_new w _ _) rfl rfl (by omega) (by simp [Lt]))
  have HT := Lib.hid ht
  clear ht
  by_cases hh : headB p = true
  · have h1 : timesB p.tx [p.time] = true := by simp [headB] at hh; exact hh.1
    have h2 : inB p.unit 1 65536 = true := by simp [headB] at hh; exact hh.2.1
    have h3 : inB p.data 0 65536 = true := by simp [headB] at hh; exact hh.2.2
    have hda := inB_iff.1 h3
    have hd0 := hda.1
    have hd1 := hda.2
    clear hda
    have HH := Lib.hid hh
    clear hh
    by_cases hln : 4096 < n
    · have e : poolChk p = 2 := by
        unfold poolChk
        rw [if_neg (by rw [HH.out]; simp), if_pos (by simp only [sizeB, decide_eq_false_iff_not]; rw [hl.out]; omega)]
      rw [e]
      clear e
      go_enter Tryz.func24, Tryz.ntmps24
      go_wp2_with (first
        | (go_at_call 42; refine (in_any _ _ _ _).mono ?_; rintro e w' ⟨rfl, rfl⟩)
        | (go_at_call 41; refine HT.out.mono ?_; rintro e w' ⟨rfl, rfl⟩))
      go_ret
      exact ⟨rfl, hw0.trans (hw1.mono (by omega))⟩
    · have hcs := count_small hok (by rw [hl.out]; omega)
      have hct := fun w2 (hB : Below w.heap.size w w2) => count_any w2 S (.agg #[.int .i64 p.tx, .int .i64 p.time, .int .i64 p.unit, .int .i64 p.data, .slice A n c]) p (fun b hb => Nat.lt_of_lt_of_le (hS b hb) hB.size)
        (hp0.below hB hS) (by rw [hl.out]; omega) hcs
      have HCT := Lib.hid hct
      have hcn : 0 ≤ p.count := countL_nonneg _
      clear hct hp0
      have hw2 := hw0.trans (hw1.mono (by omega))
      by_cases hcc : 16384 < p.count
      · have e : poolChk p = 2 := by
          unfold poolChk
          rw [if_neg (by rw [HH.out]; simp), if_pos (by simp only [sizeB, decide_eq_false_iff_not]; omega)]
        rw [e]
        clear e
        go_enter Tryz.func24, Tryz.ntmps24
        go_wp2_with (first
          | (go_at_call 42; refine (in_any _ _ _ _).mono ?_; rintro e w' ⟨rfl, rfl⟩)
          | (go_at_call 41; refine HT.out.mono ?_; rintro e w' ⟨rfl, rfl⟩)
          | (go_at_call 13; refine (HCT.out _ hw2).mono ?_; rintro e w3 ⟨rfl, hB3⟩))
        go_ret
        exact ⟨rfl, hw2.trans (hB3.mono (by simp; omega))⟩
      · have e : poolChk p = devsChk p.data (-1) p.devs := by
          unfold poolChk
          rw [if_neg (by rw [HH.out]; simp), if_neg (by simp only [sizeB, Bool.not_eq_false, decide_eq_true_eq]; rw [hl.out]; omega)]
        rw [e]
        clear e
        go_enter Tryz.func24, Tryz.ntmps24
        go_wp2_with (first
          | (go_at_call 42; refine (in_any _ _ _ _).mono ?_; rintro e w' ⟨rfl, rfl⟩)
          | (go_at_call 41; refine HT.out.mono ?_; rintro e w' ⟨rfl, rfl⟩)
          | (go_at_call 13; refine (HCT.out _ hw2).mono ?_; rintro e w3 ⟨rfl, hB3⟩; have hb3 := hw1.trans (hB3.mono (by simp)); have hq := hb3.cell (p := ⟨w.heap.size, 4, none⟩) (by simp); have hq4 : w3.cell? ⟨w.heap.size, 4, none⟩ = some (.slice A n c) := hq.trans (by simp [World.cell?_alloc_new]); clear hq))
        go_loopw [3, 39] (fun last i wr => ∃ k : Nat, k ≤ n ∧ i = .int .i64 k ∧ last = .int .i64 (lastId p.devs k) ∧ Below (w.heap.size + 1) (w.alloc (.cells #[.int .i64 p.tx, .int .i64 p.time, .int .i64 p.unit, .int .i64 p.data, .slice A n c] 24)) wr ∧ DcAt p.data p.devs k) (fun _ i _ => n - (intOf i).toNat)
        case atStart => exact ⟨0, by omega, rfl, rfl, hb3, DcAt.zero _ _⟩
        case round =>
          clear hB3 hb3 hq4 HCT HT
          obtain ⟨k, hk, rfl, rfl, hB, hA⟩ := hrel
          have HA := Lib.hid hA
          have hB0 := hw0.trans (hB.mono (by omega))
          clear hA
          by_cases hlt : k < n
          · obtain ⟨b, off, rfl, hb, hcl⟩ := devs_cells (hr.keep rdev_stable (fun _ h => h) (keep_below hB0 hS)) (by rw [hl.out]; omega)
            obtain ⟨c0, c1, c2, c3, A', c', c4, hc', hr'⟩ := hcl k (by rw [hl.out]; omega)
            have hlt' := hlt
            rw [← hl.out] at hlt'
            have HD := Lib.hid (fun hb => HA.out.dev hlt' hb)
            have HM := Lib.hid (fun h1 hb => HA.out.maps hlt' h1 hb)
            have HN := Lib.hid (fun h1 hb => HA.out.next hlt' h1 hb)
            have HS := Lib.hid (lastId_succ p.devs k)
            have hkm := HKB.out k hlt
            have hbs : b < wr.heap.size := by have := hS b hb; have := hB0.size; omega
            have hq3 : wr.cell? ⟨w.heap.size, 3, none⟩ = some (.int .i64 p.data) := (hB.cell (p := ⟨w.heap.size, 3, none⟩) (by simp)).trans (by simp [World.cell?_alloc_new])
            have hws : w.heap.size < wr.heap.size := by have := hB.size; simp at this; omega
            have hS' : ∀ b, S b → b < wr.heap.size := fun b hb => by have := hS b hb; omega
            clear hcl
            generalize nth dev0 p.devs k = d at *
            have hdv := device_any (wr.alloc (.cells #[.int .i64 d.id, .int .i64 d.tx, .int .i64 d.made, .int .i64 d.snapped, .slice A' d.maps.length c'] 36)) (.agg #[.int .i64 d.id, .int .i64 d.tx, .int .i64 d.made, .int .i64 d.snapped, .slice A' d.maps.length c']) S d (lastId p.devs k) ⟨A', c', rfl, hc', hr'.keep rmp_stable (fun _ h => h) (keep_alloc hS' _)⟩
            have HDV := Lib.hid hdv
            have HB := hB.alloc (by simpa using hB.size) (.cells #[.int .i64 d.id, .int .i64 d.tx, .int .i64 d.made, .int .i64 d.snapped, .slice A' d.maps.length c'] 36)
            have hmp := fun w4 (hB4 : Below (wr.heap.size + 1) (wr.alloc (.cells #[.int .i64 d.id, .int .i64 d.tx, .int .i64 d.made, .int .i64 d.snapped, .slice A' d.maps.length c'] 36)) w4) => mapped_any w4 S (.slice A' d.maps.length c') d.maps p.data (fun b hb => by have := hS' b hb; have := hB4.size; simp at this; omega) (by omega)
              ⟨A', c', rfl, hc', hr'.keep rmp_stable (fun _ h => h) ((keep_alloc hS' _).trans (keep_below hB4 (fun b hb => by have := hS' b hb; omega)))⟩ (by omega) (by omega)
            have HMP := Lib.hid hmp
            clear hdv hmp hr'
            by_cases hde : devChk d (lastId p.devs k) = 0
            · have hdb : (devChk d (lastId p.devs k) != 0) = false := by simp [hde]
              have HDE := Lib.hid hde
              clear hde
              by_cases hme : mapChk p.data d.maps = 0
              · have hmb : (mapChk p.data d.maps != 0) = false := by simp [hme]
                have HME := Lib.hid hme
                clear hme
                go_wp2_with (first
                  | (go_at_call 43; refine HDV.out.mono ?_; rintro e w4 ⟨rfl, hB4⟩; have hB4' := hB4.mono (B' := wr.heap.size + 1) (by simp); have bc4 := fun o => hB4.cell (p := ⟨wr.heap.size, o, none⟩) (by simp); have bp4 := hB4.cell (p := ⟨w.heap.size, 3, none⟩) (by simp; omega))
                  | (go_at_call 44; refine (HMP.out w4 hB4').mono ?_; rintro e w5 ⟨rfl, hB5⟩; have bc5 := fun o => hB5.cell (p := ⟨wr.heap.size, o, none⟩) (by have := hB4.size; simp at this; simp; omega)))
                go_roundw
                case rel => exact ⟨k + 1, by omega, by go_num, by rw [HS.out], HB.trans ((hB4.trans (hB5.mono hB4.size)).mono (by simp; omega)), HN.out HDE.out HME.out⟩
                case measure => simp [intOf]; omega
              · have hmb : (mapChk p.data d.maps != 0) = true := by simp [hme]
                have HME := Lib.hid hme
                clear hme
                go_wp2_with (first
                  | (go_at_call 43; refine HDV.out.mono ?_; rintro e w4 ⟨rfl, hB4⟩; have hB4' := hB4.mono (B' := wr.heap.size + 1) (by simp); have bc4 := fun o => hB4.cell (p := ⟨wr.heap.size, o, none⟩) (by simp); have bp4 := hB4.cell (p := ⟨w.heap.size, 3, none⟩) (by simp; omega))
                  | (go_at_call 44; refine (HMP.out w4 hB4').mono ?_; rintro e w5 ⟨rfl, hB5⟩; have bc5 := fun o => hB5.cell (p := ⟨wr.heap.size, o, none⟩) (by have := hB4.size; simp at this; simp; omega)))
                go_ret
                exact ⟨ret_int (HM.out HDE.out HME.out).symm, hw0.trans ((HB.trans ((hB4.trans (hB5.mono hB4.size)).mono (by simp; omega))).mono (by omega))⟩
            · have hdb : (devChk d (lastId p.devs k) != 0) = true := by simp [hde]
              have HDE := Lib.hid hde
              clear hde
              go_wp2_with (go_at_call 43; refine HDV.out.mono ?_; rintro e w4 ⟨rfl, hB4⟩)
              go_ret
              exact ⟨ret_int (HD.out HDE.out).symm, hw0.trans ((HB.trans (hB4.mono (by simp; omega))).mono (by omega))⟩
          · go_wp2
            go_ret
            exact ⟨ret_int (HA.out.done (by rw [hl.out]; omega)).symm, hB0⟩
  · have hh' : headB p = false := by simpa using hh
    have e : poolChk p = 2 := by unfold poolChk; rw [if_pos hh']
    rw [e]
    have hor : timesB p.tx [p.time] = false ∨ (timesB p.tx [p.time] = true ∧ inB p.unit 1 65536 = false) ∨ (timesB p.tx [p.time] = true ∧ inB p.unit 1 65536 = true ∧ inB p.data 0 65536 = false) := by
      unfold headB at hh'
      cases h3 : timesB p.tx [p.time] <;> cases h4 : inB p.unit 1 65536 <;> cases h5 : inB p.data 0 65536 <;> simp_all
    clear hh hh' e hp0
    rcases hor with h3 | ⟨h3, h4⟩ | ⟨h3, h4, h5⟩
    all_goals
      go_enter Tryz.func24, Tryz.ntmps24
      go_wp2_with (first
        | (go_at_call 42; refine (in_any _ _ _ _).mono ?_; rintro e w' ⟨rfl, rfl⟩)
        | (go_at_call 41; refine HT.out.mono ?_; rintro e w' ⟨rfl, rfl⟩))
      go_ret
      exact ⟨rfl, hw0.trans (hw1.mono (by omega))⟩
end Go.Proofs.YtcdfbpdejbpgjaaGreat
