/- slices.BinarySearchFunc at mappings, by merge.order: where a virtual block stands. Condition: the mappings are in order. -/
import Derived.Test.YtecnkeakmedgnaaWOrder
import Derived.Test.YtecnkeakmedgnaaSearchP
import Derived.Test.YtecnkeakmedgnaaRegT
import Derived.Outline
import Derived.Deep.QuietTactic
import Derived.BigQuiet
namespace Go.Proofs.Ytecnkeakmedgnaa
open Go.RowKit
attribute [local go_sem] Oper.semAt_some

def SearchIs (l : List Mp) (v : Int) (w : World) (e : Ending) (w' : World) : Prop := ∃ k, Parts l v k ∧ e = .returned (.tuple #[.int .i64 (k : Nat), .bool (hasV l v)]) ∧ Below w.heap.size w w'
/-- The three cells of a mapping. -/
theorem box3 {w : World} {b : Nat} {x y z : Value} {t : TypeId} (h : w.heap[b]? = some (.cells #[x, y, z] t (0, 0))) : w.cell? ⟨b, 0, none⟩ = some x ∧ w.cell? ⟨b, 1, none⟩ = some y ∧ w.cell? ⟨b, 2, none⟩ = some z := by
  simp [World.cell?, h]
set_option maxRecDepth 100000 in
set_option maxHeartbeats 3200000 in
theorem search_any (w : World) (S : Nat → Prop) (v : Value) (l : List Mp) (x : Mp) (hS : ∀ b, S b → b < w.heap.size) (h : IsMaps w S v l) (hl1 : l.length ≤ 140737488355328) (hi : Inc l) :
    Calls Try.prog 35 #[v, .agg #[.int .i64 x.v, .int .i64 x.b, .int .i64 x.t], .func (.func 22) #[] #[]] w (SearchIs l x.v w) := by
  obtain ⟨A, c, rfl, hc, hr⟩ := h
  have HC := Lib.hid (fun hp => maps_cells hr hp)
  have HI := Lib.hid hi
  have hbox : (w.alloc (.cells #[.int .i64 x.v, .int .i64 x.b, .int .i64 x.t] 41)).heap[w.heap.size]? = some (.cells #[.int .i64 x.v, .int .i64 x.b, .int .i64 x.t] 41 (0, 0)) := heap_alloc_new w _
  have HB0 := Lib.hid hbox
  have hB0 : Below w.heap.size w (w.alloc (.cells #[.int .i64 x.v, .int .i64 x.b, .int .i64 x.t] 41)) := (Below.refl _ _).alloc (Nat.le_refl _) _
  clear hr hi hbox
  generalize hnn : l.length = n at *
  have HN := Lib.hid hnn
  clear hnn
  go_enter Try.func35, Try.ntmps35
  go_wp2_with fail
  go_loopw [9, 10] (fun i j wr => ∃ p q : Nat, i = .int .i64 p ∧ j = .int .i64 q ∧ p ≤ q ∧ q ≤ n ∧ (∀ k, k < p → (nth mp0 l k).v < x.v) ∧ (∀ k, q ≤ k → k < n → x.v ≤ (nth mp0 l k).v) ∧ Below w.heap.size w wr ∧ wr.heap[w.heap.size]? = some (.cells #[.int .i64 x.v, .int .i64 x.b, .int .i64 x.t] 41 (0, 0))) (fun i j _ => (intOf j).toNat - (intOf i).toNat)
  case atStart => exact ⟨0, n, rfl, rfl, by omega, by omega, fun k hk => by omega, fun k h1 h2 => by omega, hB0, HB0.out⟩
  case round =>
    obtain ⟨p, q, rfl, rfl, hpq, hqn, hlo, hhi, hB, hbx⟩ := hrel
    have HLO := Lib.hid hlo
    have HHI := Lib.hid hhi
    have HBX := Lib.hid hbx
    have hz := hB.size
    have hzx : w.heap.size < wr.heap.size := (Array.getElem?_eq_some_iff.1 hbx).1
    clear hlo hhi hbx hB0
    by_cases hlt : p < q
    · obtain ⟨m, hm⟩ : ∃ m : Nat, m = (p + q) / 2 := ⟨_, rfl⟩
      have hmp : p ≤ m := by omega
      have hmq : m < q := by omega
      obtain ⟨b, off, rfl, hbS, hcl⟩ := HC.out (by omega)
      have hb0 := hS b hbS
      have hcm := hcl m (by omega)
      clear hcl
      have hme : ((p : Int) + (q : Int)) / 2 = (m : Int) := by omega
      have hsum : (0 : Int) ≤ (p : Int) + (q : Int) := by omega
      have hsum2 : (p : Int) + (q : Int) ≤ 281474976710656 := by omega
      have hmn : (m : Int) < (n : Int) := by omega
      have HM := Lib.hid (show m < l.length by rw [HN.out]; omega)
      clear hm
      generalize hy : nth mp0 l m = y at *
      have HY := Lib.hid hy
      clear hy
      have HCL := Lib.hid (fun w' (hB' : Below wr.heap.size wr w') => (⟨(hB'.cell (p := ⟨b, off + m * 3, none⟩) (Nat.lt_of_lt_of_le hb0 hz)).trans ((hB.cell (p := ⟨b, off + m * 3, none⟩) hb0).trans hcm.1), (hB'.cell (p := ⟨b, off + m * 3 + 1, none⟩) (Nat.lt_of_lt_of_le hb0 hz)).trans ((hB.cell (p := ⟨b, off + m * 3 + 1, none⟩) hb0).trans hcm.2.1), (hB'.cell (p := ⟨b, off + m * 3 + 2, none⟩) (Nat.lt_of_lt_of_le hb0 hz)).trans ((hB.cell (p := ⟨b, off + m * 3 + 2, none⟩) hb0).trans hcm.2.2)⟩ : w'.cell? ⟨b, off + m * 3, none⟩ = some (.int .i64 y.v) ∧ w'.cell? ⟨b, off + m * 3 + 1, none⟩ = some (.int .i64 y.b) ∧ w'.cell? ⟨b, off + m * 3 + 2, none⟩ = some (.int .i64 y.t)))
      have HBL := Lib.hid (fun w' (hB' : Below wr.heap.size wr w') => box3 ((hB'.block w.heap.size hzx).trans HBX.out))
      clear hcm
      have HOR := Lib.hid (fun w' => order_below w' y x)
      have hsg := cmpI_lt (a := y.v) (b := x.v)
      generalize cmpI y.v x.v = r at *
      by_cases hneg : r < 0
      · have HV := Lib.hid (hsg.1 hneg)
        clear hsg
        go_wp2_with fail
        refine wp_region_till (T := fun _ => false) (S := fun w' => Below wr.heap.size wr w') (by kernel_rfl) (Below.refl wr.heap.size wr).drew (fun hHeld => ?_)
        have hkr : Below wr.heap.size wr wr.drew := (Below.refl wr.heap.size wr).drew
        refine wpTill_put 0 24 (oi := _) (v := ?_) rfl rfl (by kernel_rfl) (by kernel_rfl) (by kernel_rfl) (by kernel_rfl) (fun _ _ _ h => h) (by rfl) hHeld ?_ ?_
        rotate_left
        · (intro w hSw; go_simp; (try with_reducible rfl))
        (try simp only [Act.put, List.setIfInBounds_toArray, List.set_cons_zero, List.set_cons_succ])
        refine wpTill_put 1 25 (oi := _) (v := ?_) rfl rfl (by kernel_rfl) (by kernel_rfl) (by kernel_rfl) (by kernel_rfl) (fun _ _ _ h => h) (by rfl) hHeld ?_ ?_
        rotate_left
        · (intro w hSw; go_simp; (try with_reducible rfl))
        (try simp only [Act.put, List.setIfInBounds_toArray, List.set_cons_zero, List.set_cons_succ])
        refine wpTill_put 2 26 (oi := _) (v := ?_) rfl rfl (by kernel_rfl) (by kernel_rfl) (by kernel_rfl) (by kernel_rfl) (fun _ _ _ h => h) (by rfl) hHeld ?_ ?_
        rotate_left
        · (intro w hSw; go_simp; (try with_reducible rfl))
        (try simp only [Act.put, List.setIfInBounds_toArray, List.set_cons_zero, List.set_cons_succ])
        refine wpTill_put 3 27 (oi := _) (v := ?_) rfl rfl (by kernel_rfl) (by kernel_rfl) (by kernel_rfl) (by kernel_rfl) (fun _ _ _ h => h) (by rfl) hHeld ?_ ?_
        rotate_left
        · (intro w hSw; go_simp; (try with_reducible rfl))
        (try simp only [Act.put, List.setIfInBounds_toArray, List.set_cons_zero, List.set_cons_succ])
        refine wpTill_put 4 28 (oi := _) (v := ?_) rfl rfl (by kernel_rfl) (by kernel_rfl) (by kernel_rfl) (by kernel_rfl) (fun _ _ _ h => h) (by rfl) hHeld ?_ ?_
        rotate_left
        · (intro w hSw; obtain ⟨l0, l1, l2⟩ := HCL.out _ hSw; go_simp; (try with_reducible rfl))
        (try simp only [Act.put, List.setIfInBounds_toArray, List.set_cons_zero, List.set_cons_succ])
        refine wpTill_put 5 29 (oi := _) (v := ?_) rfl rfl (by kernel_rfl) (by kernel_rfl) (by kernel_rfl) (by kernel_rfl) (fun _ _ _ h => h) (by rfl) hHeld ?_ ?_
        rotate_left
        · (intro w hSw; obtain ⟨l0, l1, l2⟩ := HBL.out _ hSw; go_simp; (try with_reducible rfl))
        (try simp only [Act.put, List.setIfInBounds_toArray, List.set_cons_zero, List.set_cons_succ])
        refine wpTill_one 6 (o := _) (by kernel_rfl) rfl (fun K hK => ?_)
        go_simp
        refine (HOR.out _).mono ?_
        rintro e w5 ⟨rfl, hB5⟩
        have hkr := hkr.trans (hB5.mono hkr.size)
        refine hK.out _ _ (fun _ => (Below.refl wr.heap.size wr).drew.trans (hB5.mono (Below.refl wr.heap.size wr).drew.size)) (fun _ => ?_)
        clear hK K hHeld
        (try simp only [Act.put, List.setIfInBounds_toArray, List.set_cons_zero, List.set_cons_succ])
        refine wpTill_more (S' := fun w' => Below w5.heap.size w5 w') (fun _ h => ((Below.refl wr.heap.size wr).drew.trans (hB5.mono (Below.refl wr.heap.size wr).drew.size)).trans (h.mono (hkr.size))) _ _ _ _ ?_
        have hHeld : (fun w' => Below w5.heap.size w5 w') w5 := Below.refl _ _
        refine wpTill_put 7 31 (oi := _) (v := ?_) rfl rfl (by kernel_rfl) (by kernel_rfl) (by kernel_rfl) (by kernel_rfl) (fun _ _ _ h => h) (by rfl) hHeld ?_ ?_
        rotate_left
        · (intro w hSw; go_simp; (try with_reducible rfl))
        (try simp only [Act.put, List.setIfInBounds_toArray, List.set_cons_zero, List.set_cons_succ])
        refine wpTill_done (by kernel_rfl) ?_ _
        go_wp2_with fail
        go_roundw
        case rel => exact ⟨m + 1, q, by go_num, rfl, by omega, hqn, fun k hk => (by rcases Nat.lt_or_ge k p with h | h; exact HLO.out k h; have := inc_mono HI.out (i := k) (j := m) (by omega) HM.out; rw [HY.out] at this; have := HV.out; omega), HHI.out, hB.trans (hkr.mono hz), (hkr.block w.heap.size hzx).trans HBX.out⟩
        case measure => simp [intOf]; omega
      · have HV := Lib.hid (Int.not_lt.1 fun h => hneg (hsg.2 h))
        clear hsg
        go_wp2_with fail
        refine wp_region_till (T := fun _ => false) (S := fun w' => Below wr.heap.size wr w') (by kernel_rfl) (Below.refl wr.heap.size wr).drew (fun hHeld => ?_)
        have hkr : Below wr.heap.size wr wr.drew := (Below.refl wr.heap.size wr).drew
        refine wpTill_put 0 24 (oi := _) (v := ?_) rfl rfl (by kernel_rfl) (by kernel_rfl) (by kernel_rfl) (by kernel_rfl) (fun _ _ _ h => h) (by rfl) hHeld ?_ ?_
        rotate_left
        · (intro w hSw; go_simp; (try with_reducible rfl))
        (try simp only [Act.put, List.setIfInBounds_toArray, List.set_cons_zero, List.set_cons_succ])
        refine wpTill_put 1 25 (oi := _) (v := ?_) rfl rfl (by kernel_rfl) (by kernel_rfl) (by kernel_rfl) (by kernel_rfl) (fun _ _ _ h => h) (by rfl) hHeld ?_ ?_
        rotate_left
        · (intro w hSw; go_simp; (try with_reducible rfl))
        (try simp only [Act.put, List.setIfInBounds_toArray, List.set_cons_zero, List.set_cons_succ])
        refine wpTill_put 2 26 (oi := _) (v := ?_) rfl rfl (by kernel_rfl) (by kernel_rfl) (by kernel_rfl) (by kernel_rfl) (fun _ _ _ h => h) (by rfl) hHeld ?_ ?_
        rotate_left
        · (intro w hSw; go_simp; (try with_reducible rfl))
        (try simp only [Act.put, List.setIfInBounds_toArray, List.set_cons_zero, List.set_cons_succ])
        refine wpTill_put 3 27 (oi := _) (v := ?_) rfl rfl (by kernel_rfl) (by kernel_rfl) (by kernel_rfl) (by kernel_rfl) (fun _ _ _ h => h) (by rfl) hHeld ?_ ?_
        rotate_left
        · (intro w hSw; go_simp; (try with_reducible rfl))
        (try simp only [Act.put, List.setIfInBounds_toArray, List.set_cons_zero, List.set_cons_succ])
        refine wpTill_put 4 28 (oi := _) (v := ?_) rfl rfl (by kernel_rfl) (by kernel_rfl) (by kernel_rfl) (by kernel_rfl) (fun _ _ _ h => h) (by rfl) hHeld ?_ ?_
        rotate_left
        · (intro w hSw; obtain ⟨l0, l1, l2⟩ := HCL.out _ hSw; go_simp; (try with_reducible rfl))
        (try simp only [Act.put, List.setIfInBounds_toArray, List.set_cons_zero, List.set_cons_succ])
        refine wpTill_put 5 29 (oi := _) (v := ?_) rfl rfl (by kernel_rfl) (by kernel_rfl) (by kernel_rfl) (by kernel_rfl) (fun _ _ _ h => h) (by rfl) hHeld ?_ ?_
        rotate_left
        · (intro w hSw; obtain ⟨l0, l1, l2⟩ := HBL.out _ hSw; go_simp; (try with_reducible rfl))
        (try simp only [Act.put, List.setIfInBounds_toArray, List.set_cons_zero, List.set_cons_succ])
        refine wpTill_one 6 (o := _) (by kernel_rfl) rfl (fun K hK => ?_)
        go_simp
        refine (HOR.out _).mono ?_
        rintro e w5 ⟨rfl, hB5⟩
        have hkr := hkr.trans (hB5.mono hkr.size)
        refine hK.out _ _ (fun _ => (Below.refl wr.heap.size wr).drew.trans (hB5.mono (Below.refl wr.heap.size wr).drew.size)) (fun _ => ?_)
        clear hK K hHeld
        (try simp only [Act.put, List.setIfInBounds_toArray, List.set_cons_zero, List.set_cons_succ])
        refine wpTill_more (S' := fun w' => Below w5.heap.size w5 w') (fun _ h => ((Below.refl wr.heap.size wr).drew.trans (hB5.mono (Below.refl wr.heap.size wr).drew.size)).trans (h.mono (hkr.size))) _ _ _ _ ?_
        have hHeld : (fun w' => Below w5.heap.size w5 w') w5 := Below.refl _ _
        refine wpTill_put 7 31 (oi := _) (v := ?_) rfl rfl (by kernel_rfl) (by kernel_rfl) (by kernel_rfl) (by kernel_rfl) (fun _ _ _ h => h) (by rfl) hHeld ?_ ?_
        rotate_left
        · (intro w hSw; go_simp; (try with_reducible rfl))
        (try simp only [Act.put, List.setIfInBounds_toArray, List.set_cons_zero, List.set_cons_succ])
        refine wpTill_done (by kernel_rfl) ?_ _
        go_wp2_with fail
        go_roundw
        case rel => exact ⟨p, m, rfl, rfl, by omega, by omega, HLO.out, fun k h1 h2 => (by have := inc_mono HI.out (i := m) (j := k) h1 (by rw [HN.out]; exact h2); rw [HY.out] at this; have := HV.out; omega), hB.trans (hkr.mono hz), (hkr.block w.heap.size hzx).trans HBX.out⟩
        case measure => simp [intOf]; omega
    · obtain rfl : p = q := by omega
      have hpt : Parts l x.v p := ⟨by rw [HN.out]; exact hqn, HLO.out, fun j h1 h2 => HHI.out j h1 (by rw [HN.out] at h2; exact h2)⟩
      have hha := parts_has hpt HI.out
      have HPT := Lib.hid hpt
      clear hpt
      by_cases hpn : p < n
      · have hpi : decide ((p : Int) < (n : Int)) = true := by simp; omega
        obtain ⟨b, off, rfl, hbS, hcl⟩ := HC.out (by omega)
        have hb0 := hS b hbS
        have hcm := hcl p (by omega)
        clear hcl
        have hpl : p < l.length := by rw [HN.out]; omega
        generalize hy : nth mp0 l p = y at *
        have hhb : hasV l x.v = (cmpI y.v x.v == 0) := by
          rw [hha, Bool.eq_iff_iff, decide_eq_true_eq, beq_iff_eq, cmpI_eq]
          exact ⟨fun h => h.2, fun h => ⟨hpl, h⟩⟩
        have HHB := Lib.hid hhb
        clear hy hha hhb hpl
        have HCL := Lib.hid (fun w' (hB' : Below wr.heap.size wr w') => (⟨(hB'.cell (p := ⟨b, off + p * 3, none⟩) (Nat.lt_of_lt_of_le hb0 hz)).trans ((hB.cell (p := ⟨b, off + p * 3, none⟩) hb0).trans hcm.1), (hB'.cell (p := ⟨b, off + p * 3 + 1, none⟩) (Nat.lt_of_lt_of_le hb0 hz)).trans ((hB.cell (p := ⟨b, off + p * 3 + 1, none⟩) hb0).trans hcm.2.1), (hB'.cell (p := ⟨b, off + p * 3 + 2, none⟩) (Nat.lt_of_lt_of_le hb0 hz)).trans ((hB.cell (p := ⟨b, off + p * 3 + 2, none⟩) hb0).trans hcm.2.2)⟩ : w'.cell? ⟨b, off + p * 3, none⟩ = some (.int .i64 y.v) ∧ w'.cell? ⟨b, off + p * 3 + 1, none⟩ = some (.int .i64 y.b) ∧ w'.cell? ⟨b, off + p * 3 + 2, none⟩ = some (.int .i64 y.t)))
        have HBL := Lib.hid (fun w' (hB' : Below wr.heap.size wr w') => box3 ((hB'.block w.heap.size hzx).trans HBX.out))
        clear hcm
        have HOR := Lib.hid (fun w' => order_below w' y x)
        generalize cmpI y.v x.v = r at *
        go_wp2_with fail
        refine wp_region_till (T := fun _ => false) (S := fun w' => Below wr.heap.size wr w') (by kernel_rfl) (Below.refl wr.heap.size wr).drew (fun hHeld => ?_)
        have hkr : Below wr.heap.size wr wr.drew := (Below.refl wr.heap.size wr).drew
        refine wpTill_put 0 35 (oi := _) (v := ?_) rfl rfl (by kernel_rfl) (by kernel_rfl) (by kernel_rfl) (by kernel_rfl) (fun _ _ _ h => h) (by rfl) hHeld ?_ ?_
        rotate_left
        · (intro w hSw; go_simp; (try with_reducible rfl))
        (try simp only [Act.put, List.setIfInBounds_toArray, List.set_cons_zero, List.set_cons_succ])
        refine wpTill_put 1 36 (oi := _) (v := ?_) rfl rfl (by kernel_rfl) (by kernel_rfl) (by kernel_rfl) (by kernel_rfl) (fun _ _ _ h => h) (by rfl) hHeld ?_ ?_
        rotate_left
        · (intro w hSw; go_simp; (try with_reducible rfl))
        (try simp only [Act.put, List.setIfInBounds_toArray, List.set_cons_zero, List.set_cons_succ])
        refine wpTill_put 2 37 (oi := _) (v := ?_) rfl rfl (by kernel_rfl) (by kernel_rfl) (by kernel_rfl) (by kernel_rfl) (fun _ _ _ h => h) (by rfl) hHeld ?_ ?_
        rotate_left
        · (intro w hSw; go_simp; (try with_reducible rfl))
        (try simp only [Act.put, List.setIfInBounds_toArray, List.set_cons_zero, List.set_cons_succ])
        refine wpTill_put 3 38 (oi := _) (v := ?_) rfl rfl (by kernel_rfl) (by kernel_rfl) (by kernel_rfl) (by kernel_rfl) (fun _ _ _ h => h) (by rfl) hHeld ?_ ?_
        rotate_left
        · (intro w hSw; go_simp; (try with_reducible rfl))
        (try simp only [Act.put, List.setIfInBounds_toArray, List.set_cons_zero, List.set_cons_succ])
        refine wpTill_put 4 39 (oi := _) (v := ?_) rfl rfl (by kernel_rfl) (by kernel_rfl) (by kernel_rfl) (by kernel_rfl) (fun _ _ _ h => h) (by rfl) hHeld ?_ ?_
        rotate_left
        · (intro w hSw; go_simp; (try with_reducible rfl))
        (try simp only [Act.put, List.setIfInBounds_toArray, List.set_cons_zero, List.set_cons_succ])
        refine wpTill_put 5 40 (oi := _) (v := ?_) rfl rfl (by kernel_rfl) (by kernel_rfl) (by kernel_rfl) (by kernel_rfl) (fun _ _ _ h => h) (by rfl) hHeld ?_ ?_
        rotate_left
        · (intro w hSw; go_simp; (try with_reducible rfl))
        (try simp only [Act.put, List.setIfInBounds_toArray, List.set_cons_zero, List.set_cons_succ])
        refine wpTill_put 6 41 (oi := _) (v := ?_) rfl rfl (by kernel_rfl) (by kernel_rfl) (by kernel_rfl) (by kernel_rfl) (fun _ _ _ h => h) (by rfl) hHeld ?_ ?_
        rotate_left
        · (intro w hSw; go_simp; (try with_reducible rfl))
        (try simp only [Act.put, List.setIfInBounds_toArray, List.set_cons_zero, List.set_cons_succ])
        refine wpTill_put 7 42 (oi := _) (v := ?_) rfl rfl (by kernel_rfl) (by kernel_rfl) (by kernel_rfl) (by kernel_rfl) (fun _ _ _ h => h) (by rfl) hHeld ?_ ?_
        rotate_left
        · (intro w hSw; go_simp; (try with_reducible rfl))
        (try simp only [Act.put, List.setIfInBounds_toArray, List.set_cons_zero, List.set_cons_succ])
        refine wpTill_put 8 43 (oi := _) (v := ?_) rfl rfl (by kernel_rfl) (by kernel_rfl) (by kernel_rfl) (by kernel_rfl) (fun _ _ _ h => h) (by rfl) hHeld ?_ ?_
        rotate_left
        · (intro w hSw; go_simp; (try with_reducible rfl))
        (try simp only [Act.put, List.setIfInBounds_toArray, List.set_cons_zero, List.set_cons_succ])
        refine wpTill_put 9 44 (oi := _) (v := ?_) rfl rfl (by kernel_rfl) (by kernel_rfl) (by kernel_rfl) (by kernel_rfl) (fun _ _ _ h => h) (by rfl) hHeld ?_ ?_
        rotate_left
        · (intro w hSw; obtain ⟨l0, l1, l2⟩ := HCL.out _ hSw; go_simp; (try with_reducible rfl))
        (try simp only [Act.put, List.setIfInBounds_toArray, List.set_cons_zero, List.set_cons_succ])
        refine wpTill_put 10 45 (oi := _) (v := ?_) rfl rfl (by kernel_rfl) (by kernel_rfl) (by kernel_rfl) (by kernel_rfl) (fun _ _ _ h => h) (by rfl) hHeld ?_ ?_
        rotate_left
        · (intro w hSw; obtain ⟨l0, l1, l2⟩ := HBL.out _ hSw; go_simp; (try with_reducible rfl))
        (try simp only [Act.put, List.setIfInBounds_toArray, List.set_cons_zero, List.set_cons_succ])
        refine wpTill_one 11 (o := _) (by kernel_rfl) rfl (fun K hK => ?_)
        go_simp
        refine (HOR.out _).mono ?_
        rintro e w5 ⟨rfl, hB5⟩
        have hkr := hkr.trans (hB5.mono hkr.size)
        refine hK.out _ _ (fun _ => (Below.refl wr.heap.size wr).drew.trans (hB5.mono (Below.refl wr.heap.size wr).drew.size)) (fun _ => ?_)
        clear hK K hHeld
        (try simp only [Act.put, List.setIfInBounds_toArray, List.set_cons_zero, List.set_cons_succ])
        refine wpTill_more (S' := fun w' => Below w5.heap.size w5 w') (fun _ h => ((Below.refl wr.heap.size wr).drew.trans (hB5.mono (Below.refl wr.heap.size wr).drew.size)).trans (h.mono (hkr.size))) _ _ _ _ ?_
        have hHeld : (fun w' => Below w5.heap.size w5 w') w5 := Below.refl _ _
        refine wpTill_put 12 47 (oi := _) (v := ?_) rfl rfl (by kernel_rfl) (by kernel_rfl) (by kernel_rfl) (by kernel_rfl) (fun _ _ _ h => h) (by rfl) hHeld ?_ ?_
        rotate_left
        · (intro w hSw; go_simp; (try with_reducible rfl))
        (try simp only [Act.put, List.setIfInBounds_toArray, List.set_cons_zero, List.set_cons_succ])
        refine wpTill_put 13 48 (oi := _) (v := ?_) rfl rfl (by kernel_rfl) (by kernel_rfl) (by kernel_rfl) (by kernel_rfl) (fun _ _ _ h => h) (by rfl) hHeld ?_ ?_
        rotate_left
        · (intro w hSw; go_simp; (try with_reducible rfl))
        (try simp only [Act.put, List.setIfInBounds_toArray, List.set_cons_zero, List.set_cons_succ])
        refine wpTill_put 14 6 (oi := _) (v := ?_) rfl rfl (by kernel_rfl) (by kernel_rfl) (by kernel_rfl) (by kernel_rfl) (fun _ _ _ h => h) (by rfl) hHeld ?_ ?_
        rotate_left
        · (intro w hSw; go_simp; (try with_reducible rfl))
        (try simp only [Act.put, List.setIfInBounds_toArray, List.set_cons_zero, List.set_cons_succ])
        refine wpTill_put 15 7 (oi := _) (v := ?_) rfl rfl (by kernel_rfl) (by kernel_rfl) (by kernel_rfl) (by kernel_rfl) (fun _ _ _ h => h) (by rfl) hHeld ?_ ?_
        rotate_left
        · (intro w hSw; go_simp; (try with_reducible rfl))
        (try simp only [Act.put, List.setIfInBounds_toArray, List.set_cons_zero, List.set_cons_succ])
        refine wpTill_done (by kernel_rfl) ?_ _
        go_wp2_with fail
        go_ret2
        exact ⟨p, HPT.out, by rw [HHB.out]; rfl, hB.trans (hkr.mono hz)⟩
      · have hpi : decide ((p : Int) < (n : Int)) = false := by simp; omega
        have hhb : hasV l x.v = false := by rw [hha]; simp [HN.out]; omega
        have HHB := Lib.hid hhb
        clear hha hhb
        go_wp2_with fail
        go_quiet (fail)
        go_wp2_with fail
        go_ret2
        exact ⟨p, HPT.out, by rw [HHB.out]; rfl, below_drewN hB _⟩
end Go.Proofs.Ytecnkeakmedgnaa
