/- scantlingref18.Check returns poolChk, as pool.Check does. Condition: the numbers fit into Go's int, and no slice is longer than the reach. -/
import Derived.Test.YtnemfponbadcjaaWRef18
namespace Go.Proofs.Ytnemfponbadcjaa
open Go.RowKit

theorem devB_parts {d : Dev} (h : devB d = true) : inB d.id 0 16777215 = true ∧ inB d.tx 0 2147483647 = true ∧ inB d.made 0 16777215 = true ∧ inB d.snapped 0 16777215 = true := by
  simp [devB, timesB] at h; exact ⟨h.1, h.2.1, h.2.2.1, h.2.2.2⟩
theorem devB_not {d : Dev} (h : devB d = false) : inB d.id 0 16777215 = false ∨ (inB d.id 0 16777215 = true ∧ inB d.tx 0 2147483647 = false) ∨ (inB d.id 0 16777215 = true ∧ inB d.tx 0 2147483647 = true ∧ inB d.made 0 16777215 = false) ∨ (inB d.id 0 16777215 = true ∧ inB d.tx 0 2147483647 = true ∧ inB d.made 0 16777215 = true ∧ inB d.snapped 0 16777215 = false) := by
  unfold devB timesB at h
  simp only [List.all_cons, List.all_nil, Bool.and_true] at h
  cases h1 : inB d.id 0 16777215 <;> cases h2 : inB d.tx 0 2147483647 <;> cases h3 : inB d.made 0 16777215 <;> cases h4 : inB d.snapped 0 16777215 <;> simp_all
theorem headB_parts {p : Pool} (h : headB p = true) : inB p.tx 0 2147483647 = true ∧ inB p.time 0 16777215 = true ∧ inB p.unit 1 65536 = true ∧ inB p.data 0 65536 = true := by
  simp [headB, timesB] at h; exact ⟨h.1.1, h.1.2, h.2.1, h.2.2⟩
theorem headB_not {p : Pool} (h : headB p = false) : inB p.tx 0 2147483647 = false ∨ (inB p.tx 0 2147483647 = true ∧ inB p.time 0 16777215 = false) ∨ (inB p.tx 0 2147483647 = true ∧ inB p.time 0 16777215 = true ∧ inB p.unit 1 65536 = false) ∨ (inB p.tx 0 2147483647 = true ∧ inB p.time 0 16777215 = true ∧ inB p.unit 1 65536 = true ∧ inB p.data 0 65536 = false) := by
  unfold headB timesB at h
  simp only [List.all_cons, List.all_nil, Bool.and_true] at h
  cases h1 : inB p.tx 0 2147483647 <;> cases h2 : inB p.time 0 16777215 <;> cases h3 : inB p.unit 1 65536 <;> cases h4 : inB p.data 0 65536 <;> simp_all
theorem mapB_not {data : Int} {m : Mp} (h : mapB data m = false) : inB m.v 0 281474976710655 = false ∨ (inB m.v 0 281474976710655 = true ∧ inB m.b 0 (data - 1) = false) ∨ (inB m.v 0 281474976710655 = true ∧ inB m.b 0 (data - 1) = true ∧ inB m.t 0 16777215 = false) := by
  unfold mapB at h
  cases h3 : inB m.v 0 281474976710655 <;> cases h4 : inB m.b 0 (data - 1) <;> cases h5 : inB m.t 0 16777215 <;> simp_all
theorem devChk_two {d : Dev} {last : Int} (h : devB d = false) : devChk d last = 2 := by unfold devChk; rw [if_pos h]
theorem devChk_eight {d : Dev} {last : Int} (h : devB d = true) (h2 : d.id ≤ last) : devChk d last = 8 := by unfold devChk; rw [if_neg (by simp [h]), if_pos h2]
theorem devChk_zero {d : Dev} {last : Int} (h : devB d = true) (h2 : last < d.id) : devChk d last = 0 := by unfold devChk; rw [if_neg (by simp [h]), if_neg (by omega)]

set_option maxRecDepth 100000 in
set_option maxHeartbeats 3200000 in
theorem rcheck_any (w : World) (S : Nat → Prop) (v : Value) (p : Pool) (hS : ∀ b, S b → b < w.heap.size) (h : IsPool w S v p) (hok : p.ok) :
    Calls Try.prog 20 #[v] w fun e w' => e = .returned (.int .i64 (poolChk p)) ∧ Below w.heap.size w w' := by
  have hp0 := h
  obtain ⟨A, c, rfl, hc, hr⟩ := h
  have hnl := hok.2.2.2.2.2
  have hkb := fun k (hk : k < p.devs.length) => (hok.dev hk).2.2.2.2.2
  generalize hl0 : p.devs.length = n at *
  have hl := Lib.hid hl0
  clear hl0
  have HKB := Lib.hid hkb
  clear hkb
  have hw0 : Below w.heap.size w (w.alloc (poolBox p A n c)) := (Below.refl _ _).alloc (Nat.le_refl _) _
  by_cases hh : headB p = true
  · obtain ⟨g1, g2, g3, g4⟩ := headB_parts hh
    have hda := inB_iff.1 g4
    have hd0 := hda.1
    have hd1 := hda.2
    clear hda
    have HH := Lib.hid hh
    clear hh
    by_cases hln : 4096 < n
    · have e : poolChk p = 2 := by
        unfold poolChk
        rw [if_neg (by rw [HH.out]; simp), if_pos (by simp only [sizeB, decide_eq_false_iff_not]; rw [hl.out]; omega)]
      rw [e]
      clear e
      go_enter Try.func20, Try.ntmps20
      go_wp2_with (go_at_call 31; refine (rin_any _ _ _ _).mono ?_; rintro e w' ⟨rfl, rfl⟩)
      go_ret
      exact ⟨rfl, hw0⟩
    · have hcs := count_small hok (by rw [hl.out]; omega)
      have hct := fun w2 (hB : Below w.heap.size w w2) => rcount_any w2 S (.agg #[.int .i64 p.tx, .int .i64 p.time, .int .i64 p.unit, .int .i64 p.data, .slice A n c]) p (fun b hb => Nat.lt_of_lt_of_le (hS b hb) hB.size)
        (hp0.below hB hS) (by rw [hl.out]; omega) hcs
      have HCT := Lib.hid hct
      have hcn : 0 ≤ p.count := countL_nonneg _
      clear hct hp0
      by_cases hcc : 16384 < p.count
      · have e : poolChk p = 2 := by
          unfold poolChk
          rw [if_neg (by rw [HH.out]; simp), if_pos (by simp only [sizeB, decide_eq_false_iff_not]; omega)]
        rw [e]
        clear e
        go_enter Try.func20, Try.ntmps20
        go_wp2_with (first
          | (go_at_call 31; refine (rin_any _ _ _ _).mono ?_; rintro e w' ⟨rfl, rfl⟩)
          | (go_at_call 32; refine (HCT.out _ hw0).mono ?_; rintro e w3 ⟨rfl, hB3⟩))
        go_ret
        exact ⟨rfl, hw0.trans (hB3.mono (by simp))⟩
      · have e : poolChk p = devsChk p.data (-1) p.devs := by
          unfold poolChk
          rw [if_neg (by rw [HH.out]; simp), if_neg (by simp only [sizeB, Bool.not_eq_false, decide_eq_true_eq]; rw [hl.out]; omega)]
        rw [e]
        clear e
        go_enter Try.func20, Try.ntmps20
        go_wp2_with (first
          | (go_at_call 31; refine (rin_any _ _ _ _).mono ?_; rintro e w' ⟨rfl, rfl⟩)
          | (go_at_call 32; refine (HCT.out _ hw0).mono ?_; rintro e w3 ⟨rfl, hB3⟩; have hb3 := hB3.mono (B' := w.heap.size + 1) (by simp)))
        go_loopw [3] (fun i wr => ∃ k : Nat, k ≤ n ∧ i = .int .i64 k ∧ Below (w.heap.size + 1) (w.alloc (poolBox p A n c)) wr ∧ DcAt p.data p.devs k) (fun i _ => n - (intOf i).toNat)
        case atStart => exact ⟨0, by omega, rfl, hb3, DcAt.zero _ _⟩
        case round =>
          clear hB3 hb3 HCT g1 g2 g3 g4
          obtain ⟨k, hk, rfl, hB, hA⟩ := hrel
          have HA := Lib.hid hA
          have hB0 := hw0.trans (hB.mono (by omega))
          have hq := fun o => hB.cell (p := ⟨w.heap.size, o, none⟩) (by simp)
          have hq3 : wr.cell? ⟨w.heap.size, 3, none⟩ = some (.int .i64 p.data) := (hq 3).trans (by simp [World.cell?_alloc_new])
          have hq4 : wr.cell? ⟨w.heap.size, 4, none⟩ = some (.slice A n c) := (hq 4).trans (by simp [World.cell?_alloc_new])
          have hws : w.heap.size < wr.heap.size := by have := hB.size; simp at this; omega
          clear hA hq
          by_cases hlt : k < n
          · obtain ⟨b, off, rfl, hb, hcl⟩ := devs_cells (hr.keep rdev_stable (fun _ h => h) (keep_below hB0 hS)) (by rw [hl.out]; omega)
            obtain ⟨c0, c1, c2, c3, A', c', c4, hc', hr'⟩ := hcl k (by rw [hl.out]; omega)
            have hlt' := hlt
            rw [← hl.out] at hlt'
            have HD := Lib.hid (fun hb => HA.out.dev hlt' hb)
            have HM := Lib.hid (fun h1 hb => HA.out.maps hlt' h1 hb)
            have HN := Lib.hid (fun h1 hb => HA.out.next hlt' h1 hb)
            have hkm := HKB.out k hlt
            have hbs : b < wr.heap.size := by have := hS b hb; have := hB0.size; omega
            have hS' : ∀ b, S b → b < wr.heap.size := fun b hb => by have := hS b hb; omega
            have hlast : (0 < k ∧ decide ((0 : Int) < (k : Int)) = true ∧ wr.cell? ⟨b, off + (k - 1) * 5, none⟩ = some (.int .i64 (lastId p.devs k))) ∨ (¬ 0 < k ∧ decide ((0 : Int) < (k : Int)) = false ∧ Hid (lastId p.devs k = -1)) := by
              by_cases h0 : 0 < k
              · refine .inl ⟨h0, by simp; omega, ?_⟩
                rw [lastId_pos _ h0]
                exact (hcl (k - 1) (by rw [hl.out]; omega)).1
              · refine .inr ⟨h0, by simp; omega, ?_⟩
                obtain rfl : k = 0 := by omega
                rfl
            clear hcl
            generalize lastId p.devs k = last at *
            generalize nth dev0 p.devs k = d at *
            have HB := hB.alloc (by simpa using hB.size) (.cells #[.int .i64 d.id, .int .i64 d.tx, .int .i64 d.made, .int .i64 d.snapped, .slice A' d.maps.length c'] 52)
            by_cases hdB : devB d = true
            · obtain ⟨i1, i2, i3, i4⟩ := devB_parts hdB
              have hid0 := (inB_iff.1 i1).1
              have HDB := Lib.hid hdB
              clear hdB
              by_cases hle : d.id ≤ last
              · rcases hlast with ⟨h0, hd, hlc⟩ | ⟨h0, hd, hl1⟩
                · go_wp2_with (go_at_call 31; refine (rin_any _ _ _ _).mono ?_; rintro e w' ⟨rfl, rfl⟩)
                  go_quiet (fail)
                  go_wp2_with fail
                  go_ret
                  have e8 := devChk_eight HDB.out hle
                  exact ⟨ret_int (by rw [HD.out (by rw [e8]; simp), e8]), hw0.trans (below_drewN (HB.mono (by omega)) _)⟩
                · have := hl1.out; omega
              · have hlt2 : last < d.id := by omega
                have HDZ := Lib.hid (devChk_zero HDB.out hlt2)
                obtain ⟨wo, rfl⟩ : ∃ wo : World, wo = wr := ⟨_, rfl⟩
                have hor : (0 < k ∧ decide ((0 : Int) < (k : Int)) = true ∧ wo.cell? ⟨b, off + (k - 1) * 5, none⟩ = some (.int .i64 last)) ∨ (¬ 0 < k ∧ decide ((0 : Int) < (k : Int)) = false) := by
                  rcases hlast with ⟨h0, hd, hlc⟩ | ⟨h0, hd, _⟩
                  · exact .inl ⟨h0, hd, hlc⟩
                  · exact .inr ⟨h0, hd⟩
                clear hlast
                rcases hor with ⟨h0, hd, hlc⟩ | ⟨h0, hd⟩
                all_goals
                  go_wp2_with (go_at_call 31; refine (rin_any _ _ _ _).mono ?_; rintro e w' ⟨rfl, rfl⟩)
                  go_quiet (fail)
                  go_wp2_with fail
                  clear i1 i2 i3 i4 HDB
                  go_loopw [5] (fun i wr => ∃ j : Nat, j ≤ d.maps.length ∧ i = .int .i64 j ∧ Below (wo.heap.size + 1) (wo.alloc (.cells #[.int .i64 d.id, .int .i64 d.tx, .int .i64 d.made, .int .i64 d.snapped, .slice A' d.maps.length c'] 52)) wr ∧ McAt p.data d.maps j) (fun i _ => d.maps.length - (intOf i).toNat)
                  case atStart => exact ⟨0, by omega, rfl, below_drewN (Below.refl _ _) _, McAt.zero _ _⟩
                  case round =>
                    obtain ⟨j, hj, rfl, hBi, hA2⟩ := hrel
                    have HA2 := Lib.hid hA2
                    have hqd : wr.cell? ⟨wo.heap.size, 4, none⟩ = some (.slice A' d.maps.length c') := (hBi.cell (p := ⟨wo.heap.size, 4, none⟩) (by simp)).trans (by simp [World.cell?_alloc_new])
                    have hqp : wr.cell? ⟨w.heap.size, 3, none⟩ = some (.int .i64 p.data) := (hBi.cell (p := ⟨w.heap.size, 3, none⟩) (by simp; omega)).trans ((World.cell?_alloc_past _ _ _ hws).trans hq3)
                    have hwz : wo.heap.size < wr.heap.size := by have := hBi.size; simp at this; omega
                    have hwr : w.heap.size < wr.heap.size := by omega
                    clear hA2
                    by_cases hjl : j < d.maps.length
                    · obtain ⟨mb, mo, rfl, hmb, hmc⟩ := maps_cells (hr'.keep rmp_stable (fun _ h => h) ((keep_alloc hS' _).trans (keep_below hBi (fun b hb => by have := hS' b hb; omega)))) (by omega)
                      obtain ⟨m0, m1, m2⟩ := hmc j hjl
                      have hmbs : mb < wr.heap.size := by have := hS' mb hmb; omega
                      have HR := Lib.hid (fun hb => HA2.out.range hjl hb)
                      have HO := Lib.hid (fun h1 hb => HA2.out.order hjl h1 hb)
                      have HX := Lib.hid (fun h1 hb => HA2.out.next hjl h1 hb)
                      have hmlast : (0 < j ∧ decide ((0 : Int) < (j : Int)) = true ∧ wr.cell? ⟨mb, mo + (j - 1) * 3, none⟩ = some (.int .i64 (lastV d.maps j))) ∨ (¬ 0 < j ∧ decide ((0 : Int) < (j : Int)) = false ∧ Hid (lastV d.maps j = -1)) := by
                        by_cases h0 : 0 < j
                        · refine .inl ⟨h0, by simp; omega, ?_⟩
                          rw [lastV_pos _ h0]
                          exact (hmc (j - 1) (by omega)).1
                        · refine .inr ⟨h0, by simp; omega, ?_⟩
                          obtain rfl : j = 0 := by omega
                          rfl
                      clear hmc
                      generalize lastV d.maps j = ml at *
                      generalize nth mp0 d.maps j = m at *
                      have HBi := hBi.alloc (by simpa using hBi.size) (.cells #[.int .i64 m.v, .int .i64 m.b, .int .i64 m.t] 54)
                      have hout := hw0.trans ((HB.trans (HBi.mono (by omega))).mono (by omega))
                      by_cases hmB : mapB p.data m = true
                      · have i1 : inB m.v 0 281474976710655 = true := by simp [mapB] at hmB; exact hmB.1
                        have i2 : inB m.b 0 (p.data - 1) = true := by simp [mapB] at hmB; exact hmB.2.1
                        have i3 : inB m.t 0 16777215 = true := by simp [mapB] at hmB; exact hmB.2.2
                        have hmv := (inB_iff.1 i1).1
                        have HMB := Lib.hid hmB
                        clear hmB
                        by_cases hmle : m.v ≤ ml
                        · rcases hmlast with ⟨g0, gd, glc⟩ | ⟨g0, gd, gl1⟩
                          · have e8 := HO.out HMB.out hmle
                            have E8 := Lib.hid e8
                            clear e8
                            go_wp2_with (go_at_call 31; refine (rin_any _ _ _ _).mono ?_; rintro e w' ⟨rfl, rfl⟩)
                            go_quiet (fail)
                            go_wp2_with fail
                            go_ret
                            exact ⟨ret_int (by rw [HM.out HDZ.out (by rw [E8.out]; simp), E8.out]), below_drewN hout _⟩
                          · have := gl1.out; omega
                        · have hmlt : ml < m.v := by omega
                          have hor2 : (0 < j ∧ decide ((0 : Int) < (j : Int)) = true ∧ wr.cell? ⟨mb, mo + (j - 1) * 3, none⟩ = some (.int .i64 ml)) ∨ (¬ 0 < j ∧ decide ((0 : Int) < (j : Int)) = false) := by
                            rcases hmlast with ⟨h0, hd, hlc⟩ | ⟨h0, hd, _⟩
                            · exact .inl ⟨h0, hd, hlc⟩
                            · exact .inr ⟨h0, hd⟩
                          clear hmlast
                          rcases hor2 with ⟨g0, gd, glc⟩ | ⟨g0, gd⟩
                          all_goals
                            go_wp2_with (go_at_call 31; refine (rin_any _ _ _ _).mono ?_; rintro e w' ⟨rfl, rfl⟩)
                            go_quiet (fail)
                            go_wp2_with fail
                            go_roundw
                            case rel => exact ⟨j + 1, by omega, by go_num, below_drewN HBi _, HX.out HMB.out hmlt⟩
                            case measure => simp [intOf]; omega
                      · have hmB' : mapB p.data m = false := by simpa using hmB
                        have hor2 := mapB_not hmB'
                        have E2 := Lib.hid (HR.out hmB')
                        clear hmB hmB' hmlast
                        rcases hor2 with i1 | ⟨i1, i2⟩ | ⟨i1, i2, i3⟩
                        all_goals
                          go_wp2_with (go_at_call 31; refine (rin_any _ _ _ _).mono ?_; rintro e w' ⟨rfl, rfl⟩)
                          go_ret
                          exact ⟨ret_int (by rw [HM.out HDZ.out (by rw [E2.out]; simp), E2.out]), hout⟩
                    · have E0 := Lib.hid (HA2.out.done (by omega))
                      go_wp2_with fail
                      go_roundw
                      case rel => exact ⟨k + 1, by omega, by go_num, HB.trans (hBi.mono (by omega)), HN.out HDZ.out E0.out⟩
                      case measure => simp [intOf]; omega
            · have hdB' : devB d = false := by simpa using hdB
              have HDB := Lib.hid (devChk_two (last := last) hdB')
              have hor := devB_not hdB'
              clear hdB hdB' hlast
              rcases hor with i1 | ⟨i1, i2⟩ | ⟨i1, i2, i3⟩ | ⟨i1, i2, i3, i4⟩
              all_goals
                go_wp2_with (go_at_call 31; refine (rin_any _ _ _ _).mono ?_; rintro e w' ⟨rfl, rfl⟩)
                go_ret
                exact ⟨ret_int (by rw [HD.out (by rw [HDB.out]; simp), HDB.out]), hw0.trans (HB.mono (by omega))⟩
          · go_wp2
            go_ret
            exact ⟨ret_int (HA.out.done (by rw [hl.out]; omega)).symm, hB0⟩
  · have hh' : headB p = false := by simpa using hh
    have e : poolChk p = 2 := by unfold poolChk; rw [if_pos hh']
    rw [e]
    have hor := headB_not hh'
    clear hh hh' e hp0
    rcases hor with h1 | ⟨h1, h2⟩ | ⟨h1, h2, h3⟩ | ⟨h1, h2, h3, h4⟩
    all_goals
      go_enter Try.func20, Try.ntmps20
      go_wp2_with (go_at_call 31; refine (rin_any _ _ _ _).mono ?_; rintro e w' ⟨rfl, rfl⟩)
      go_ret
      exact ⟨rfl, hw0⟩
end Go.Proofs.Ytnemfponbadcjaa
