/- slices.symMergeCmpFunc at candidates where the left part is one element. Condition: the stretch lies in the row. -/
import Derived.Test.YtolpgblegbahgaaWInsS
namespace Go.Proofs.Ytolpgblegbahgaa
open Go.RowKit Go.Shelf Go.Sort
set_option linter.unusedVariables false
set_option linter.unusedSimpArgs false

theorem bsF_end (p : Nat → Bool) {g i j : Nat} (h : ¬ i < j) : bsF p g i j = i := by
  cases g with
  | zero => rfl
  | succ g => rw [bsF, if_neg h]
theorem bsF_up (p : Nat → Bool) {g i j h : Nat} (hlt : i < j) (hh : h = (i + j) / 2) (hp : p h = true) : bsF p (g + 1) i j = bsF p g (h + 1) j := by
  subst hh
  rw [bsF, if_pos hlt, if_pos hp]
theorem bsF_dn (p : Nat → Bool) {g i j h : Nat} (hlt : i < j) (hh : h = (i + j) / 2) (hp : p h = false) : bsF p (g + 1) i j = bsF p g i h := by
  subst hh
  rw [bsF, if_pos hlt, if_neg (by rw [hp]; simp)]
set_option maxRecDepth 100000 in
set_option maxHeartbeats 3200000 in
theorem symA_any {α : Type} [Inhabited α] (enc : α → List Value) (hk : ∀ x, (enc x).length = 8) (h1 : ∀ x, ∀ v ∈ enc x, v.oneCell' = true) (cf : α → α → Int) (w0 w : World) (blk off cap n a m b : Nat) (l : List α) (hl : l.length = n)
    (hR : RowAt enc w0 blk off w l) (hcmp : CmpBel enc w0 blk off n 14 cf) (hm : m = a + 1) (hmb : m < b) (hb : b ≤ n) (hsz : n < 1000000) :
    Calls Try.prog 40 #[.slice (some ⟨blk, off, none⟩) n cap, .int .i64 a, .int .i64 m, .int .i64 b, .func (.func 14) #[] #[]] w fun e w' =>
      e = .returned (.tuple #[]) ∧ RowAt enc w0 blk off w' (shUp default a (bsF (fun h => decide (cf (nth default l h) (nth default l a) < 0)) (b - m + 1) m b - 1 - a) l) := by
  have HR := Lib.hid hR
  have HC := Lib.hid hcmp
  have HK : Hid (∀ x, (enc x).length = 8) := hk
  have H1 : Hid (∀ x, ∀ v ∈ enc x, v.oneCell' = true) := h1
  have HL := Lib.hid hl
  have HM := Lib.hid hm
  have hwm : IntKind.i64.wrap ((m : Int) - (a : Int)) = 1 := by rw [IntKind.wrap_i64]; omega
  have han : (a : Int) < (n : Int) := by omega
  have ham : a < m := by omega
  clear hR hcmp hk h1 hl hm
  have mixed : Try.prog.follows .mixedOrders = true := by kernel_rfl
  obtain ⟨k, hk8⟩ : ∃ k, k = 8 := ⟨_, rfl⟩
  have aE : ∀ w, (isAgg 33).run Try.prog w = .ok true w := Try.isAgg33
  have zE : ∀ w, (Go.sizeOf 33).run Try.prog w = .ok k w := by rw [hk8]; exact Try.sizeOf33
  have H8 := Lib.hid hk8
  clear hk8
  obtain ⟨X, hX⟩ : ∃ X, bsF (fun h => decide (cf (nth default l h) (nth default l a) < 0)) (b - m + 1) m b = X := ⟨_, rfl⟩
  rw [hX]
  have HX := Lib.hid hX
  clear hX
  go_enter Try.func40, Try.ntmps40
  go_wp2_with fail
  go_loopw [10, 11] (fun vi vj wr => ∃ (i j g : Nat), vi = .int .i64 i ∧ vj = .int .i64 j ∧ m ≤ i ∧ i ≤ j ∧ j ≤ b ∧ j - i < g ∧ Hid (RowAt enc w0 blk off wr l ∧ bsF (fun h => decide (cf (nth default l h) (nth default l a) < 0)) g i j = X)) (fun vi vj _ => (intOf vj).toNat - (intOf vi).toNat)
  case atStart => exact ⟨m, b, b - m + 1, rfl, rfl, by omega, by omega, by omega, by omega, Lib.hid ⟨HR.out, HX.out⟩⟩
  case round =>
    obtain ⟨i, j, g, rfl, rfl, hmi, hij, hjb, hg, HJ⟩ := hrel
    by_cases hlt : i < j
    · obtain ⟨g, rfl⟩ : ∃ g', g = g' + 1 := ⟨g - 1, by omega⟩
      obtain ⟨h, hh⟩ : ∃ h : Nat, h = (i + j) / 2 := ⟨_, rfl⟩
      have hih : i ≤ h := by omega
      have hhj : h < j := by omega
      have hme : ((i : Int) + (j : Int)) / 2 = (h : Int) := by omega
      have hsum : (0 : Int) ≤ (i : Int) + (j : Int) := by omega
      have hsum2 : (i : Int) + (j : Int) ≤ 281474976710656 := by omega
      have hhn : (h : Int) < (n : Int) := by omega
      have HH := Lib.hid hh
      clear hh
      obtain ⟨ei, hei⟩ : ∃ e, enc l.toArray[h]! = e := ⟨_, rfl⟩
      obtain ⟨ea, hea⟩ : ∃ e, enc l.toArray[a]! = e := ⟨_, rfl⟩
      have HA : Hid (∀ w', Below wr.heap.size wr w' → RowAt enc w0 blk off w' l) := fun w' h => HJ.out.1.below h
      have HLD := Lib.hid (HJ.out.1.loads HK.out (i := h) (j := a) (by rw [HL.out]; omega) (by rw [HL.out]; omega) H8.out hei hea)
      have HCL : Hid (∀ w', Below wr.heap.size wr w' → Calls Try.prog 14 #[.agg ei.toArray, .agg ea.toArray] w' fun e w'' => e = .returned (.int .i64 (cf l.toArray[h]! l.toArray[a]!)) ∧ Below w'.heap.size w' w'') := fun w' h => by rw [← hei, ← hea]; exact HC.out w' l HL.out (HA.out w' h) _ _
      have HCV : Hid (cf l.toArray[h]! l.toArray[a]! = cf (nth default l h) (nth default l a)) := by show _ = _; rw [arr_nth l (by rw [HL.out]; omega), arr_nth l (by rw [HL.out]; omega)]
      clear hei hea
      generalize hcv : cf l.toArray[h]! l.toArray[a]! = cv at *
      clear hcv
      by_cases hneg : cv < 0
      · skip
        go_upto_region 5 with fail
        refine wp_region_till (T := fun _ => false) (S := fun w' => Below wr.heap.size wr w') (by kernel_rfl) (Below.refl wr.heap.size wr).drew (fun hHeld => ?_)
        obtain ⟨w101, hw0⟩ : ∃ x, wr.drew = x := ⟨_, rfl⟩
        rw [hw0] at hHeld ⊢
        have hkA : Below wr.heap.size wr w101 := hHeld
        clear hHeld hw0
        refine wpTill_put 0 40 (oi := _) (v := ?_) rfl rfl (by kernel_rfl) (by kernel_rfl) (by kernel_rfl) (by kernel_rfl) (fun _ _ _ h => h) (by rfl) hkA ?_ ?_
        rotate_left
        · (intro w2' hSw; go_simp; (try with_reducible rfl))
        (try simp only [Act.put, List.setIfInBounds_toArray, List.set_cons_zero, List.set_cons_succ])
        refine wpTill_put 1 41 (oi := _) (v := ?_) rfl rfl (by kernel_rfl) (by kernel_rfl) (by kernel_rfl) (by kernel_rfl) (fun _ _ _ h => h) (by rfl) hkA ?_ ?_
        rotate_left
        · (intro w2' hSw; go_simp; (try with_reducible rfl))
        (try simp only [Act.put, List.setIfInBounds_toArray, List.set_cons_zero, List.set_cons_succ])
        refine wpTill_put 2 42 (oi := _) (v := ?_) rfl rfl (by kernel_rfl) (by kernel_rfl) (by kernel_rfl) (by kernel_rfl) (fun _ _ _ h => h) (by rfl) hkA ?_ ?_
        rotate_left
        · (intro w2' hSw; go_simp; (try with_reducible rfl))
        (try simp only [Act.put, List.setIfInBounds_toArray, List.set_cons_zero, List.set_cons_succ])
        refine wpTill_put 3 43 (oi := _) (v := ?_) rfl rfl (by kernel_rfl) (by kernel_rfl) (by kernel_rfl) (by kernel_rfl) (fun _ _ _ h => h) (by rfl) hkA ?_ ?_
        rotate_left
        · (intro w2' hSw; go_simp; (try with_reducible rfl))
        (try simp only [Act.put, List.setIfInBounds_toArray, List.set_cons_zero, List.set_cons_succ])
        refine wpTill_put 4 44 (oi := _) (v := ?_) rfl rfl (by kernel_rfl) (by kernel_rfl) (by kernel_rfl) (by kernel_rfl) (fun _ _ _ h => h) (by rfl) hkA ?_ ?_
        rotate_left
        · (intro w2' hSw; obtain ⟨l1, l2⟩ := HLD.out _ hSw; go_simp; (try with_reducible rfl))
        (try simp only [Act.put, List.setIfInBounds_toArray, List.set_cons_zero, List.set_cons_succ])
        refine wpTill_put 5 45 (oi := _) (v := ?_) rfl rfl (by kernel_rfl) (by kernel_rfl) (by kernel_rfl) (by kernel_rfl) (fun _ _ _ h => h) (by rfl) hkA ?_ ?_
        rotate_left
        · (intro w2' hSw; go_simp; (try with_reducible rfl))
        (try simp only [Act.put, List.setIfInBounds_toArray, List.set_cons_zero, List.set_cons_succ])
        refine wpTill_put 6 46 (oi := _) (v := ?_) rfl rfl (by kernel_rfl) (by kernel_rfl) (by kernel_rfl) (by kernel_rfl) (fun _ _ _ h => h) (by rfl) hkA ?_ ?_
        rotate_left
        · (intro w2' hSw; go_simp; (try with_reducible rfl))
        (try simp only [Act.put, List.setIfInBounds_toArray, List.set_cons_zero, List.set_cons_succ])
        refine wpTill_put 7 47 (oi := _) (v := ?_) rfl rfl (by kernel_rfl) (by kernel_rfl) (by kernel_rfl) (by kernel_rfl) (fun _ _ _ h => h) (by rfl) hkA ?_ ?_
        rotate_left
        · (intro w2' hSw; go_simp; (try with_reducible rfl))
        (try simp only [Act.put, List.setIfInBounds_toArray, List.set_cons_zero, List.set_cons_succ])
        refine wpTill_put 8 48 (oi := _) (v := ?_) rfl rfl (by kernel_rfl) (by kernel_rfl) (by kernel_rfl) (by kernel_rfl) (fun _ _ _ h => h) (by rfl) hkA ?_ ?_
        rotate_left
        · (intro w2' hSw; obtain ⟨l1, l2⟩ := HLD.out _ hSw; go_simp; (try with_reducible rfl))
        (try simp only [Act.put, List.setIfInBounds_toArray, List.set_cons_zero, List.set_cons_succ])
        refine wpTill_one 9 (o := _) (by kernel_rfl) rfl (fun K hK => ?_)
        go_simp
        refine (HCL.out _ hkA).mono ?_
        rintro e w102 ⟨rfl, hB5⟩
        have hkA := hkA.trans (hB5.mono hkA.size)
        refine hK.out _ _ (fun _ => hkA) (fun _ => ?_)
        clear hK K
        (try simp only [Act.put, List.setIfInBounds_toArray, List.set_cons_zero, List.set_cons_succ])
        refine wpTill_put 10 50 (oi := _) (v := ?_) rfl rfl (by kernel_rfl) (by kernel_rfl) (by kernel_rfl) (by kernel_rfl) (fun _ _ _ h => h) (by rfl) hkA ?_ ?_
        rotate_left
        · (intro w2' hSw; go_simp; (try with_reducible rfl))
        (try simp only [Act.put, List.setIfInBounds_toArray, List.set_cons_zero, List.set_cons_succ])
        refine wpTill_done (by kernel_rfl) ?_ _
        obtain ⟨wz, hwz⟩ : ∃ wz, w102 = wz := ⟨_, rfl⟩
        rw [hwz] at hkA ⊢
        clear hwz
        have HROW := Lib.hid (HA.out _ hkA)
        go_wp2_with fail
        go_roundw
        case rel => exact ⟨h + 1, j, g, by go_num, rfl, by omega, by omega, by omega, by omega, Lib.hid ⟨HROW.out, by rw [← HJ.out.2]; exact (bsF_up _ hlt HH.out (by rw [decide_eq_true_eq, ← HCV.out]; exact hneg)).symm⟩⟩
        case measure => simp [intOf]; omega
      · skip
        go_upto_region 5 with fail
        refine wp_region_till (T := fun _ => false) (S := fun w' => Below wr.heap.size wr w') (by kernel_rfl) (Below.refl wr.heap.size wr).drew (fun hHeld => ?_)
        obtain ⟨w103, hw0⟩ : ∃ x, wr.drew = x := ⟨_, rfl⟩
        rw [hw0] at hHeld ⊢
        have hkA : Below wr.heap.size wr w103 := hHeld
        clear hHeld hw0
        refine wpTill_put 0 40 (oi := _) (v := ?_) rfl rfl (by kernel_rfl) (by kernel_rfl) (by kernel_rfl) (by kernel_rfl) (fun _ _ _ h => h) (by rfl) hkA ?_ ?_
        rotate_left
        · (intro w2' hSw; go_simp; (try with_reducible rfl))
        (try simp only [Act.put, List.setIfInBounds_toArray, List.set_cons_zero, List.set_cons_succ])
        refine wpTill_put 1 41 (oi := _) (v := ?_) rfl rfl (by kernel_rfl) (by kernel_rfl) (by kernel_rfl) (by kernel_rfl) (fun _ _ _ h => h) (by rfl) hkA ?_ ?_
        rotate_left
        · (intro w2' hSw; go_simp; (try with_reducible rfl))
        (try simp only [Act.put, List.setIfInBounds_toArray, List.set_cons_zero, List.set_cons_succ])
        refine wpTill_put 2 42 (oi := _) (v := ?_) rfl rfl (by kernel_rfl) (by kernel_rfl) (by kernel_rfl) (by kernel_rfl) (fun _ _ _ h => h) (by rfl) hkA ?_ ?_
        rotate_left
        · (intro w2' hSw; go_simp; (try with_reducible rfl))
        (try simp only [Act.put, List.setIfInBounds_toArray, List.set_cons_zero, List.set_cons_succ])
        refine wpTill_put 3 43 (oi := _) (v := ?_) rfl rfl (by kernel_rfl) (by kernel_rfl) (by kernel_rfl) (by kernel_rfl) (fun _ _ _ h => h) (by rfl) hkA ?_ ?_
        rotate_left
        · (intro w2' hSw; go_simp; (try with_reducible rfl))
        (try simp only [Act.put, List.setIfInBounds_toArray, List.set_cons_zero, List.set_cons_succ])
        refine wpTill_put 4 44 (oi := _) (v := ?_) rfl rfl (by kernel_rfl) (by kernel_rfl) (by kernel_rfl) (by kernel_rfl) (fun _ _ _ h => h) (by rfl) hkA ?_ ?_
        rotate_left
        · (intro w2' hSw; obtain ⟨l1, l2⟩ := HLD.out _ hSw; go_simp; (try with_reducible rfl))
        (try simp only [Act.put, List.setIfInBounds_toArray, List.set_cons_zero, List.set_cons_succ])
        refine wpTill_put 5 45 (oi := _) (v := ?_) rfl rfl (by kernel_rfl) (by kernel_rfl) (by kernel_rfl) (by kernel_rfl) (fun _ _ _ h => h) (by rfl) hkA ?_ ?_
        rotate_left
        · (intro w2' hSw; go_simp; (try with_reducible rfl))
        (try simp only [Act.put, List.setIfInBounds_toArray, List.set_cons_zero, List.set_cons_succ])
        refine wpTill_put 6 46 (oi := _) (v := ?_) rfl rfl (by kernel_rfl) (by kernel_rfl) (by kernel_rfl) (by kernel_rfl) (fun _ _ _ h => h) (by rfl) hkA ?_ ?_
        rotate_left
        · (intro w2' hSw; go_simp; (try with_reducible rfl))
        (try simp only [Act.put, List.setIfInBounds_toArray, List.set_cons_zero, List.set_cons_succ])
        refine wpTill_put 7 47 (oi := _) (v := ?_) rfl rfl (by kernel_rfl) (by kernel_rfl) (by kernel_rfl) (by kernel_rfl) (fun _ _ _ h => h) (by rfl) hkA ?_ ?_
        rotate_left
        · (intro w2' hSw; go_simp; (try with_reducible rfl))
        (try simp only [Act.put, List.setIfInBounds_toArray, List.set_cons_zero, List.set_cons_succ])
        refine wpTill_put 8 48 (oi := _) (v := ?_) rfl rfl (by kernel_rfl) (by kernel_rfl) (by kernel_rfl) (by kernel_rfl) (fun _ _ _ h => h) (by rfl) hkA ?_ ?_
        rotate_left
        · (intro w2' hSw; obtain ⟨l1, l2⟩ := HLD.out _ hSw; go_simp; (try with_reducible rfl))
        (try simp only [Act.put, List.setIfInBounds_toArray, List.set_cons_zero, List.set_cons_succ])
        refine wpTill_one 9 (o := _) (by kernel_rfl) rfl (fun K hK => ?_)
        go_simp
        refine (HCL.out _ hkA).mono ?_
        rintro e w104 ⟨rfl, hB5⟩
        have hkA := hkA.trans (hB5.mono hkA.size)
        refine hK.out _ _ (fun _ => hkA) (fun _ => ?_)
        clear hK K
        (try simp only [Act.put, List.setIfInBounds_toArray, List.set_cons_zero, List.set_cons_succ])
        refine wpTill_put 10 50 (oi := _) (v := ?_) rfl rfl (by kernel_rfl) (by kernel_rfl) (by kernel_rfl) (by kernel_rfl) (fun _ _ _ h => h) (by rfl) hkA ?_ ?_
        rotate_left
        · (intro w2' hSw; go_simp; (try with_reducible rfl))
        (try simp only [Act.put, List.setIfInBounds_toArray, List.set_cons_zero, List.set_cons_succ])
        refine wpTill_done (by kernel_rfl) ?_ _
        obtain ⟨wz, hwz⟩ : ∃ wz, w104 = wz := ⟨_, rfl⟩
        rw [hwz] at hkA ⊢
        clear hwz
        have HROW := Lib.hid (HA.out _ hkA)
        go_wp2_with fail
        go_roundw
        case rel => exact ⟨i, h, g, rfl, rfl, by omega, by omega, by omega, by omega, Lib.hid ⟨HROW.out, by rw [← HJ.out.2]; exact (bsF_dn _ hlt HH.out (by rw [decide_eq_false_iff_not, ← HCV.out]; exact hneg)).symm⟩⟩
        case measure => simp [intOf]; omega
    · have e := HJ.out.2
      rw [bsF_end _ hlt] at e
      obtain ⟨i, rfl⟩ : ∃ i', i = i' + 1 := ⟨i - 1, by omega⟩
      have HXI : Hid (X - 1 - a = i - a) := by show _ = _; omega
      have HROW := Lib.hid HJ.out.1
      have hai : a ≤ i := by omega
      have hwi : IntKind.i64.wrap (i : Int) = (i : Int) := by rw [IntKind.wrap_i64]; omega
      clear e
      go_wp2_with fail
      go_loopw [13] (fun vk ws => ∃ (q : Nat) (dk : List α), vk = .int .i64 q ∧ a ≤ q ∧ q ≤ i ∧ dk.length = n ∧ Hid (RowAt enc w0 blk off ws dk ∧ shUp default q (i - q) dk = shUp default a (i - a) l)) (fun vk _ => i - (intOf vk).toNat)
      case atStart => exact ⟨a, l, rfl, by omega, by omega, HL.out, Lib.hid ⟨HROW.out, rfl⟩⟩
      case round =>
        obtain ⟨q, dk, rfl, haq, hqi, hs, HQ⟩ := hrel
        by_cases hqlt : q < i
        · have hqz : (q : Int) < (i : Int) := by omega
          have hqn : (q : Int) < (n : Int) := by omega
          have hqn1 : (q : Int) + 1 < (n : Int) := by omega
          have hq0 : (0 : Int) ≤ (q : Int) + 1 := by omega
          obtain ⟨ei, hei⟩ : ∃ e, enc dk.toArray[q]! = e := ⟨_, rfl⟩
          obtain ⟨ej, hej⟩ : ∃ e, enc dk.toArray[q + 1]! = e := ⟨_, rfl⟩
          obtain ⟨li, lj, s1, s2, z1, z2, hrow⟩ := HQ.out.1.facts HK.out H1.out (i := q) (j := q + 1) (by omega) (by omega) H8.out hei hej
          have HROW := Lib.hid hrow
          clear hrow hei hej
          go_wp2_with fail
          go_big_region_o
          all_goals go_wp2
          go_round
          case measure => (show i - ((q : Int) + 1).toNat < i - ((q : Int)).toNat; omega)
          case rel =>
            refine ⟨q + 1, swp default dk q (q + 1), by go_num, by omega, by omega, by rw [swp_length]; exact hs, Lib.hid ⟨HROW.out, ?_⟩⟩
            rw [← HQ.out.2, show i - q = (i - (q + 1)) + 1 by omega, shUp]
        · have hqz : ¬ (q : Int) < (i : Int) := by omega
          go_wp2_with fail
          (try simp only [Exit.inBlock, Exit.then])
          refine bodyPost_ret (results_none rfl _ _ _) rfl ?_
          refine ⟨rfl, ?_⟩
          rw [HXI.out, ← HQ.out.2, show i - q = 0 by omega, shUp]
          exact HQ.out.1
end Go.Proofs.Ytolpgblegbahgaa
