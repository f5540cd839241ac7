/- pool.device, mapped, Count, Check return devChk, mapChk, count, poolChk. Conditions: the numbers fit into Go's int, and the mappings are fewer than the reach allows. -/
import Derived.Test.YtcdfbpdejbpgjaaGreatWPool1
namespace Go.Proofs.YtcdfbpdejbpgjaaGreat
open Go.RowKit

set_option maxHeartbeats 800000 in
theorem device_any (w : World) (v : Value) (S : Nat → Prop) (d : Dev) (last : Int) (h : IsDev w S v d) :
    Calls Tryz.prog 43 #[v, .int .i64 last] w fun e w' => e = .returned (.int .i64 (devChk d last)) ∧ Below w.heap.size w w' := by
  obtain ⟨A, c, rfl, _, _⟩ := h
  have hB1 : Below w.heap.size w (w.alloc (.cells #[.int .i64 d.id, .int .i64 d.tx, .int .i64 d.made, .int .i64 d.snapped, .slice A d.maps.length c] 36)) := (Below.refl _ _).alloc (Nat.le_refl _) _
  have hB2 : Below w.heap.size w ((w.alloc (.cells #[.int .i64 d.id, .int .i64 d.tx, .int .i64 d.made, .int .i64 d.snapped, .slice A d.maps.length c] 36)).alloc (.cells #[.int .i64 d.made, .int .i64 d.snapped] 3)) := hB1.alloc (by simp) _
  have ht := times_any ((w.alloc (.cells #[.int .i64 d.id, .int .i64 d.tx, .int .i64 d.made, .int .i64 d.snapped, .slice A d.maps.length c] 36)).alloc (.cells #[.int .i64 d.made, .int .i64 d.snapped] 3))
    (Lt (w.heap.size + 2)) (.slice (some ⟨w.heap.size + 1, 0, none⟩) 2 2) d.tx [d.made, d.snapped] (by simp) (IsSl.block (fun _ => rfl) (heap_alloc2_new w _ _) rfl rfl (by omega) (by simp [Lt]))
  have HT := Lib.hid ht
  clear ht
  by_cases h1 : inB d.id 0 16777215 = true
  · by_cases h2 : timesB d.tx [d.made, d.snapped] = true
    · have hb : devB d = true := by simp [devB, h1, h2]
      by_cases h3 : d.id ≤ last
      · have e : devChk d last = 8 := by unfold devChk; rw [if_neg (by simp [hb]), if_pos h3]
        rw [e]
        clear hb e
        go_enter Tryz.func43, Tryz.ntmps43
        go_wp2_with (first
          | (go_at_call 42; refine (in_any _ _ _ _).mono ?_; rintro e w' ⟨rfl, rfl⟩)
          | (go_at_call 41; refine HT.out.mono ?_; rintro e w' ⟨rfl, rfl⟩))
        go_ret
        exact ⟨rfl, hB2⟩
      · have e : devChk d last = 0 := by unfold devChk; rw [if_neg (by simp [hb]), if_neg h3]
        rw [e]
        clear hb e
        go_enter Tryz.func43, Tryz.ntmps43
        go_wp2_with (first
          | (go_at_call 42; refine (in_any _ _ _ _).mono ?_; rintro e w' ⟨rfl, rfl⟩)
          | (go_at_call 41; refine HT.out.mono ?_; rintro e w' ⟨rfl, rfl⟩))
        go_ret
        exact ⟨rfl, hB2⟩
    · have h2' : timesB d.tx [d.made, d.snapped] = false := by simpa using h2
      have e : devChk d last = 2 := by unfold devChk; rw [if_pos (by simp [devB, h2'])]
      rw [e]
      clear e h2
      go_enter Tryz.func43, Tryz.ntmps43
      go_wp2_with (first
        | (go_at_call 42; refine (in_any _ _ _ _).mono ?_; rintro e w' ⟨rfl, rfl⟩)
        | (go_at_call 41; refine HT.out.mono ?_; rintro e w' ⟨rfl, rfl⟩))
      go_ret
      exact ⟨rfl, hB2⟩
  · have h1' : inB d.id 0 16777215 = false := by simpa using h1
    have e : devChk d last = 2 := by unfold devChk; rw [if_pos (by simp [devB, h1'])]
    rw [e]
    clear e h1
    go_enter Tryz.func43, Tryz.ntmps43
    go_wp2_with (go_at_call 42; refine (in_any _ _ _ _).mono ?_; rintro e w' ⟨rfl, rfl⟩)
    go_ret
    exact ⟨rfl, hB1⟩

set_option maxHeartbeats 800000 in
theorem mapped_any (w : World) (S : Nat → Prop) (v : Value) (l : List Mp) (data : Int) (hS : ∀ b, S b → b < w.heap.size) (hn : l.length ≤ 140737488355328) (h : IsMaps w S v l) (h0 : -1099511627776 ≤ data) (h1 : data ≤ 1099511627776) :
    Calls Tryz.prog 44 #[v, .int .i64 data] w fun e w' => e = .returned (.int .i64 (mapChk data l)) ∧ Below w.heap.size w w' := by
  obtain ⟨A, c, rfl, _, hr⟩ := h
  generalize hl0 : l.length = n at *
  have hl := Lib.hid hl0
  clear hl0
  go_enter Tryz.func44, Tryz.ntmps44
  go_wp2_with fail
  go_loopw [5, 10] (fun last i wr => ∃ k : Nat, k ≤ n ∧ i = .int .i64 k ∧ last = .int .i64 (lastV l k) ∧ Below w.heap.size w wr ∧ McAt data l k) (fun _ i _ => n - (intOf i).toNat)
  case atStart => exact ⟨0, by omega, rfl, rfl, Below.refl _ _, McAt.zero data l⟩
  case round =>
    obtain ⟨k, hk, rfl, rfl, hB, hA⟩ := hrel
    have HA := Lib.hid hA
    clear hA
    by_cases hlt : k < n
    · obtain ⟨b, off, rfl, hb, hc⟩ := maps_cells (hr.keep rmp_stable (fun _ h => h) (keep_below hB hS)) (by rw [hl.out]; omega)
      obtain ⟨c0, c1, c2⟩ := hc k (by rw [hl.out]; omega)
      have hlt' := hlt
      rw [← hl.out] at hlt'
      have HR := Lib.hid (fun hb => HA.out.range hlt' hb)
      have HO := Lib.hid (fun h1 hb => HA.out.order hlt' h1 hb)
      have HN := Lib.hid (fun h1 hb => HA.out.next hlt' h1 hb)
      have HS := Lib.hid (lastV_succ l k)
      have hbs : b < wr.heap.size := by have := hS b hb; have := hB.size; omega
      clear hc
      generalize nth mp0 l k = m at *
      have HB := hB.alloc hB.size (.cells #[.int .i64 m.v, .int .i64 m.b, .int .i64 m.t] 40)
      by_cases hm : mapB data m = true
      · have h3 : inB m.v 0 281474976710655 = true := by simp [mapB] at hm; exact hm.1
        have h4 : inB m.b 0 (data - 1) = true := by simp [mapB] at hm; exact hm.2.1
        have h5 : inB m.t 0 16777215 = true := by simp [mapB] at hm; exact hm.2.2
        have HM := Lib.hid hm
        clear hm
        by_cases hle : m.v ≤ lastV l k
        · go_wp2_with (go_at_call 42; refine (in_any _ _ _ _).mono ?_; rintro e w' ⟨rfl, rfl⟩)
          go_ret
          exact ⟨ret_int (HO.out HM.out hle).symm, HB⟩
        · go_wp2_with (go_at_call 42; refine (in_any _ _ _ _).mono ?_; rintro e w' ⟨rfl, rfl⟩)
          go_roundw
          case rel => exact ⟨k + 1, by omega, by go_num, by rw [HS.out], HB, HN.out HM.out (by omega)⟩
          case measure => simp [intOf]; omega
      · have hm' : mapB data m = false := by simpa using hm
        have HM := Lib.hid hm'
        have hor : inB m.v 0 281474976710655 = false ∨ (inB m.v 0 281474976710655 = true ∧ inB m.b 0 (data - 1) = false) ∨ (inB m.v 0 281474976710655 = true ∧ inB m.b 0 (data - 1) = true ∧ inB m.t 0 16777215 = false) := by
          unfold mapB at hm'
          cases h3 : inB m.v 0 281474976710655 <;> cases h4 : inB m.b 0 (data - 1) <;> cases h5 : inB m.t 0 16777215 <;> simp_all
        clear hm hm'
        rcases hor with h3 | ⟨h3, h4⟩ | ⟨h3, h4, h5⟩
        all_goals
          go_wp2_with (go_at_call 42; refine (in_any _ _ _ _).mono ?_; rintro e w' ⟨rfl, rfl⟩)
          go_ret
          exact ⟨ret_int (HR.out HM.out).symm, HB⟩
    · go_wp2
      go_ret
      exact ⟨ret_int (HA.out.done (by rw [hl.out]; omega)).symm, hB⟩

end Go.Proofs.YtcdfbpdejbpgjaaGreat
