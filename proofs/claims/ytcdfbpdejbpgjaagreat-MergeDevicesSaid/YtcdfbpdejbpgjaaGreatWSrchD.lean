/- slices.BinarySearchFunc at devices, by model.place's own order: where a device stands. Condition: the devices are in order. -/
import Derived.Test.YtcdfbpdejbpgjaaGreatWCmp
import Derived.Test.YtcdfbpdejbpgjaaGreatSearchK
import Derived.Test.YtcdfbpdejbpgjaaGreatPBox
import Derived.Outline
namespace Go.Proofs.YtcdfbpdejbpgjaaGreat
open Go.RowKit
attribute [local go_sem] Oper.semAt_some

theorem ordD_any (w : World) (d : Dev) (A : Option Addr) (n c : Nat) (v : Int) : Calls Tryz.prog 90 #[.agg #[.int .i64 d.id, .int .i64 d.tx, .int .i64 d.made, .int .i64 d.snapped, .slice A n c], .int .i64 v] w fun e w' =>
    e = .returned (.int .i64 (cmpI d.id v)) ∧ Below w.heap.size w w' := by
  have hc := fun w' => cmp_any w' d.id v
  generalize cmpI d.id v = r at *
  go_enter Tryz.func90, Tryz.ntmps90
  go_wp2_with (go_at_call 40; refine (hc _).mono ?_; rintro e w' ⟨rfl, rfl⟩)
  go_ret
  exact ⟨rfl, (Below.refl _ _).alloc (Nat.le_refl _) _⟩
def SrchD (l : List Dev) (v : Int) (w : World) (e : Ending) (w' : World) : Prop := e = .returned (.tuple #[.int .i64 (posK Dev.id v l : Nat), .bool (hasK Dev.id v l)]) ∧ Below w.heap.size w w'
set_option maxRecDepth 100000 in
set_option maxHeartbeats 3200000 in
theorem srchD_any (w : World) (S : Nat → Prop) (v : Value) (l : List Dev) (x : Int) (hS : ∀ b, S b → b < w.heap.size) (h : IsDevs w S v l) (hl1 : l.length ≤ 140737488355328) (hi : IncK Dev.id dev0 l) :
    Calls Tryz.prog 89 #[v, .int .i64 x, .func (.func 90) #[] #[]] w (SrchD l x w) := by
  obtain ⟨A, c, rfl, hc, hr⟩ := h
  have HC := Lib.hid hr
  have HI := Lib.hid hi
  clear hr hi
  generalize hnn : l.length = n at *
  have HN := Lib.hid hnn
  clear hnn
  go_enter Tryz.func89, Tryz.ntmps89
  go_wp2_with fail
  go_loopw [9, 10] (fun i j wr => ∃ p q : Nat, i = .int .i64 p ∧ j = .int .i64 q ∧ p ≤ q ∧ q ≤ n ∧ (∀ k, k < p → (nth dev0 l k).id < x) ∧ (∀ k, q ≤ k → k < n → x ≤ (nth dev0 l k).id) ∧ Below w.heap.size w wr) (fun i j _ => (intOf j).toNat - (intOf i).toNat)
  case atStart => exact ⟨0, n, rfl, rfl, by omega, by omega, fun k hk => by omega, fun k h1 h2 => by omega, Below.refl _ _⟩
  case round =>
    obtain ⟨p, q, rfl, rfl, hpq, hqn, hlo, hhi, hB⟩ := hrel
    have HLO := Lib.hid hlo
    have HHI := Lib.hid hhi
    have hz := hB.size
    clear hlo hhi
    by_cases hlt : p < q
    · obtain ⟨m, hm⟩ : ∃ m : Nat, m = (p + q) / 2 := ⟨_, rfl⟩
      have hmp : p ≤ m := by omega
      have hmq : m < q := by omega
      obtain ⟨b, off, rfl, hbS, hcl⟩ := devs_cells (HC.out.keep rdev_stable (fun _ h => h) (keep_below hB hS)) (by rw [HN.out]; omega)
      have hb0 := hS b hbS
      obtain ⟨c0, c1, c2, c3, A', c', c4, hc', hr'⟩ := hcl m (by rw [HN.out]; omega)
      clear hcl hr'
      have hme : ((p : Int) + (q : Int)) / 2 = (m : Int) := by omega
      have hsum : (0 : Int) ≤ (p : Int) + (q : Int) := by omega
      have hsum2 : (p : Int) + (q : Int) ≤ 281474976710656 := by omega
      have hmn : (m : Int) < (n : Int) := by omega
      have HM := Lib.hid (show m < l.length by rw [HN.out]; omega)
      clear hm
      generalize hy : nth dev0 l m = y at *
      have HY := Lib.hid hy
      clear hy
      have HOR := Lib.hid (fun w' => ordD_any w' y A' y.maps.length c' x)
      have hsg := cmpI_lt (a := y.id) (b := x)
      generalize cmpI y.id x = r at *
      by_cases hneg : r < 0
      · have HV := Lib.hid (hsg.1 hneg)
        clear hsg
        go_wp2_with (go_at_call 90; refine (HOR.out _).mono ?_; rintro e w5 ⟨rfl, hB5⟩)
        go_roundw
        case rel => exact ⟨m + 1, q, by go_num, rfl, by omega, hqn, fun k hk => (by rcases Nat.lt_or_ge k p with h | h; exact HLO.out k h; have := HI.out.mono (i := k) (j := m) (by omega) HM.out; rw [HY.out] at this; have := HV.out; omega), HHI.out, hB.trans (hB5.mono hz)⟩
        case measure => simp [intOf]; omega
      · have HV := Lib.hid (Int.not_lt.1 fun h => hneg (hsg.2 h))
        clear hsg
        go_wp2_with (go_at_call 90; refine (HOR.out _).mono ?_; rintro e w5 ⟨rfl, hB5⟩)
        go_roundw
        case rel => exact ⟨p, m, rfl, rfl, by omega, by omega, HLO.out, fun k h1 h2 => (by have := HI.out.mono (i := m) (j := k) h1 (by rw [HN.out]; exact h2); rw [HY.out] at this; have := HV.out; omega), hB.trans (hB5.mono hz)⟩
        case measure => simp [intOf]; omega
    · obtain rfl : p = q := by omega
      have hpt : p = posK Dev.id x l := posK_of (d := dev0) (by rw [HN.out]; exact hqn) HLO.out (fun h2 => HHI.out p (Nat.le_refl _) (by rw [HN.out] at h2; exact h2))
      have hha := hasK_pos (v := x) HI.out
      rw [← hpt] at hha
      have HPT := Lib.hid hpt
      clear hpt
      by_cases hpn : p < n
      · have hpi : decide ((p : Int) < (n : Int)) = true := by simp; omega
        obtain ⟨b, off, rfl, hbS, hcl⟩ := devs_cells (HC.out.keep rdev_stable (fun _ h => h) (keep_below hB hS)) (by rw [HN.out]; omega)
        have hb0 := hS b hbS
        obtain ⟨c0, c1, c2, c3, A', c', c4, hc', hr'⟩ := hcl p (by rw [HN.out]; omega)
        clear hcl hr'
        have hpl : p < l.length := by rw [HN.out]; omega
        generalize hy : nth dev0 l p = y at *
        have hhb : hasK Dev.id x l = (cmpI y.id x == 0) := by
          rw [hha, Bool.eq_iff_iff, decide_eq_true_eq, beq_iff_eq, cmpI_eq]
          exact ⟨fun h => h.2, fun h => ⟨hpl, h⟩⟩
        have HHB := Lib.hid hhb
        clear hy hha hhb hpl
        have HOR := Lib.hid (fun w' => ordD_any w' y A' y.maps.length c' x)
        generalize cmpI y.id x = r at *
        go_wp2_with (go_at_call 90; refine (HOR.out _).mono ?_; rintro e w5 ⟨rfl, hB5⟩)
        go_ret2
        exact ⟨by rw [HHB.out, ← HPT.out]; rfl, hB.trans (hB5.mono hz)⟩
      · have hpi : decide ((p : Int) < (n : Int)) = false := by simp; omega
        have hhb : hasK Dev.id x l = false := by rw [hha]; simp [HN.out]; omega
        have HHB := Lib.hid hhb
        clear hha hhb
        go_wp2_with fail
        go_ret2
        exact ⟨by rw [HHB.out, ← HPT.out]; rfl, hB⟩
end Go.Proofs.YtcdfbpdejbpgjaaGreat
