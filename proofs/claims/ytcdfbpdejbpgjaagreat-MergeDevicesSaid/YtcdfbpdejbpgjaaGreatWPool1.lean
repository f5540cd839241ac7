/- pool.in, times, device, mapped, Count, Check: what they return for any pool. Conditions: the numbers fit into Go's int, and the mappings are fewer than the reach allows. -/
import Derived.Test.YtcdfbpdejbpgjaaGreatProg
import Derived.Test.YtcdfbpdejbpgjaaGreatPool
import Derived.Test.YtcdfbpdejbpgjaaGreatInts
import Derived.Deep.QuietTactic
import Derived.BigQuiet
import Derived.Outline
namespace Go.Proofs.YtcdfbpdejbpgjaaGreat
open Go.RowKit

theorem in_any (w : World) (n lo hi : Int) : Calls Tryz.prog 42 #[.int .i64 n, .int .i64 lo, .int .i64 hi] w fun e w' => e = .returned (.bool (inB n lo hi)) ∧ w = w' := by
  by_cases h1 : lo ≤ n
  · by_cases h2 : n ≤ hi
    · rw [inB_yes ⟨h1, h2⟩]
      go_enter Tryz.func42, Tryz.ntmps42
      go_wp2
      go_ret
      exact ⟨rfl, rfl⟩
    · rw [inB_no (fun h => h2 h.2)]
      go_enter Tryz.func42, Tryz.ntmps42
      go_wp2
      go_ret
      exact ⟨rfl, rfl⟩
  · rw [inB_no (fun h => h1 h.1)]
    go_enter Tryz.func42, Tryz.ntmps42
    go_wp2
    go_ret
    exact ⟨rfl, rfl⟩

theorem time_any (w : World) (t : Int) : Calls Tryz.prog 71 #[.int .i64 t] w fun e w' => e = .returned (.bool (!inB t 0 16777215)) ∧ w = w' := by
  go_enter Tryz.func71, Tryz.ntmps71
  go_wp2_with (go_at_call 42; refine (in_any _ _ _ _).mono ?_; rintro e w' ⟨rfl, rfl⟩)
  go_ret
  exact ⟨rfl, rfl⟩

set_option maxHeartbeats 400000 in
theorem idxTimes (w : World) (S : Nat → Prop) (v : Value) (l : List Int) (hn : l.length ≤ 140737488355328) (h : IsInts w S v l) :
    Calls Tryz.prog 87 #[v, .func (.func 71) #[] #[]] w fun e w' => ∃ i : Int, e = .returned (.int .i64 i) ∧ decide (0 ≤ i) = !(l.all fun t => inB t 0 16777215) ∧ w = w' := by
  obtain ⟨A, c, rfl, _, hr⟩ := h
  generalize hl0 : l.length = n at *
  have hl := Lib.hid hl0
  clear hl0
  go_enter Tryz.func87, Tryz.ntmps87
  go_wp2_with fail
  go_loop [8] (fun i => ∃ k : Nat, k ≤ n ∧ i = .int .i64 k ∧ (l.take k).all (fun t => inB t 0 16777215) = true) (fun i => n - (intOf i).toNat)
  case atStart => exact ⟨0, by omega, rfl, rfl⟩
  case round =>
    obtain ⟨k, hk, rfl, hA⟩ := hrel
    have HA := Lib.hid hA
    clear hA
    by_cases hlt : k < n
    · obtain ⟨b, off, rfl, hb, hc⟩ := ints_cells hr (by rw [hl.out]; omega)
      have c0 := hc k (by rw [hl.out]; omega)
      have ht := Lib.hid (take_nth 0 l k (by rw [hl.out]; omega))
      have hm := Lib.hid (nth_mem 0 l k (by rw [hl.out]; omega))
      clear hc
      generalize nth 0 l k = t at *
      by_cases hin : inB t 0 16777215 = true
      · have hb2 : (!inB t 0 16777215) = false := by simp [hin]
        have HI := Lib.hid hin
        clear hin
        go_wp2_with (go_at_call 71; refine (time_any _ _).mono ?_; rintro e w' ⟨rfl, rfl⟩)
        go_round
        case rel => exact ⟨k + 1, by omega, by go_num, by rw [ht.out, List.all_append, HA.out]; simp [HI.out]⟩
        case measure => simp [intOf]; omega
      · have hb2 : (!inB t 0 16777215) = true := by simpa using hin
        have HI := Lib.hid hin
        clear hin
        go_wp2_with (go_at_call 71; refine (time_any _ _).mono ?_; rintro e w' ⟨rfl, rfl⟩)
        go_ret
        refine ⟨k, rfl, ?_, rfl⟩
        have : (l.all fun t => inB t 0 16777215) = false := by
          rw [List.all_eq_false]
          exact ⟨t, hm.out, HI.out⟩
        rw [this]
        simp
    · have hfin : Hid (l.take k = l) := List.take_of_length_le (by rw [hl.out]; omega)
      go_wp2
      go_ret
      refine ⟨-1, rfl, ?_, rfl⟩
      have := HA.out
      rw [hfin.out] at this
      rw [this]
      rfl

theorem contTimes (w : World) (S : Nat → Prop) (v : Value) (l : List Int) (hn : l.length ≤ 140737488355328) (h : IsInts w S v l) :
    Calls Tryz.prog 70 #[v, .func (.func 71) #[] #[]] w fun e w' => e = .returned (.bool (!(l.all fun t => inB t 0 16777215))) ∧ w = w' := by
  have hi := Lib.hid (idxTimes w S v l hn h)
  obtain ⟨A, c, rfl, _, hr⟩ := h
  go_enter Tryz.func70, Tryz.ntmps70
  go_wp2_with (go_at_call 87; refine hi.out.mono ?_; rintro e w' ⟨i, rfl, hd, rfl⟩; have HD := Lib.hid hd; clear hd)
  go_ret
  exact ⟨ret_bool HD.out, rfl⟩

theorem times_any (w : World) (S : Nat → Prop) (v : Value) (tx : Int) (l : List Int) (hn : l.length ≤ 140737488355328) (h : IsInts w S v l) :
    Calls Tryz.prog 41 #[.int .i64 tx, v] w fun e w' => e = .returned (.bool (timesB tx l)) ∧ w = w' := by
  have hi := Lib.hid (contTimes w S v l hn h)
  obtain ⟨A, c, rfl, _, hr⟩ := h
  by_cases h1 : inB tx 0 2147483647 = true
  · have e1 : timesB tx l = !!(l.all fun t => inB t 0 16777215) := by simp [timesB, h1]
    rw [e1]
    generalize (l.all fun t => inB t 0 16777215) = B at *
    go_enter Tryz.func41, Tryz.ntmps41
    go_wp2_with (first
      | (go_at_call 42; refine (in_any _ _ _ _).mono ?_; rintro e w' ⟨rfl, rfl⟩)
      | (go_at_call 70; refine hi.out.mono ?_; rintro e w' ⟨rfl, rfl⟩))
    go_ret
    exact ⟨ret_bool (by simp), rfl⟩
  · have h1' : inB tx 0 2147483647 = false := by simpa using h1
    have e1 : timesB tx l = false := by simp [timesB, h1']
    rw [e1]
    clear h1 e1
    go_enter Tryz.func41, Tryz.ntmps41
    go_wp2_with (go_at_call 42; refine (in_any _ _ _ _).mono ?_; rintro e w' ⟨rfl, rfl⟩)
    go_ret
    exact ⟨rfl, rfl⟩
end Go.Proofs.YtcdfbpdejbpgjaaGreat
