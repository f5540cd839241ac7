/- slices.insertionSortCmpFunc at candidates, by rank.compare. Condition: the stretch lies in the row. -/
import Derived.Test.YtolpgblegbahgaaWSortRow
import Derived.Deep.RegionHeld3
import Derived.Lib.Hide
import Derived.Test.YtolpgblegbahgaaRegT
import Derived.Deep.Cut
import Derived.Deep.DeepCutAuto
namespace Go.Proofs.Ytolpgblegbahgaa
open Go.RowKit Go.Shelf Go.Sort
set_option linter.unusedVariables false
set_option linter.unusedSimpArgs false

set_option maxRecDepth 100000 in
set_option maxHeartbeats 3200000 in
theorem insSort_any {α : Type} [Inhabited α] (enc : α → List Value) (hk : ∀ x, (enc x).length = 8) (h1 : ∀ x, ∀ v ∈ enc x, v.oneCell' = true) (cf : α → α → Int) (w0 w : World) (blk off cap a b : Nat) (l : List α)
    (hR : RowAt enc w0 blk off w l) (hcmp : CmpBel enc w0 blk off l.length 14 cf) (hab : a ≤ b) (hb : b ≤ l.length) (hsz : l.length < 4611686018427387904) :
    Calls Try.prog 39 #[.slice (some ⟨blk, off, none⟩) l.length cap, .int .i64 a, .int .i64 b, .func (.func 14) #[] #[]] w fun e w' =>
      e = .returned (.tuple #[]) ∧ RowAt enc w0 blk off w' (insSort default (fun x y => decide (cf x y < 0)) a b l) := by
  have HR := Lib.hid hR
  have HC := Lib.hid hcmp
  have HK : Hid (∀ x, (enc x).length = 8) := hk
  have H1 : Hid (∀ x, ∀ v ∈ enc x, v.oneCell' = true) := h1
  clear hR hcmp hk h1
  have mixed : Try.prog.follows .mixedOrders = true := by kernel_rfl
  go_enter Try.func39, Try.ntmps39
  go_wp2
  go_loopw [8] (fun vi wr => ∃ (i : Nat) (dk : List α), vi = .int .i64 i ∧ a < i ∧ i ≤ b + 1 ∧ dk.length = l.length ∧ Hid (RowAt enc w0 blk off wr dk ∧ insAll default (fun x y => decide (cf x y < 0)) a b (b - i) dk = insSort default (fun x y => decide (cf x y < 0)) a b l)) (fun vi _ => b + 1 - (intOf vi).toNat)
  case atStart => exact ⟨a + 1, l, by go_num, by omega, by omega, rfl, Lib.hid ⟨HR.out, rfl⟩⟩
  case round =>
    obtain ⟨i, dk, rfl, hai, hib, hs, HI⟩ := hrel
    by_cases hlt : i < b
    · have hltz : (i : Int) < (b : Int) := by omega
      go_wp2
      go_loopw [9] (fun vj wr2 => ∃ (j : Nat) (dj : List α), vj = .int .i64 j ∧ a ≤ j ∧ j ≤ i ∧ dj.length = l.length ∧ Hid (RowAt enc w0 blk off wr2 dj ∧ insDown default (fun x y => decide (cf x y < 0)) a j dj = insDown default (fun x y => decide (cf x y < 0)) a i dk)) (fun vj _ => (intOf vj).toNat)
      case atStart => exact ⟨i, dk, rfl, by omega, by omega, hs, Lib.hid ⟨HI.out.1, rfl⟩⟩
      case round =>
        obtain ⟨j, dj, rfl, haj, hji, hsj, HJ⟩ := hrel
        by_cases hja : a < j
        · obtain ⟨jp, rfl⟩ : ∃ jp, j = jp + 1 := ⟨j - 1, by omega⟩
          have hjaz : (a : Int) < (jp : Int) + 1 := by omega
          have hjd : decide ((a : Int) < (jp : Int) + 1) = true := decide_eq_true hjaz
          have hwp : IntKind.i64.wrap (jp : Int) = (jp : Int) := by rw [IntKind.wrap_i64]; omega
          have jz : (jp : Int) + 1 < (l.length : Int) := by omega
          have jz1 : (jp : Int) < (l.length : Int) := by omega
          have jz0 : (0 : Int) ≤ (jp : Int) + 1 := by omega
          obtain ⟨k, hk8⟩ : ∃ k, k = 8 := ⟨_, rfl⟩
          have aE : ∀ w, (isAgg 33).run Try.prog w = .ok true w := Try.isAgg33
          have zE : ∀ w, (Go.sizeOf 33).run Try.prog w = .ok k w := by rw [hk8]; exact Try.sizeOf33
          have HA : Hid (∀ w', Below wr.heap.size wr w' → RowAt enc w0 blk off w' dj) := fun w' h => HJ.out.1.below h
          obtain ⟨ej, hej⟩ : ∃ ej, enc dj.toArray[jp + 1]! = ej := ⟨_, rfl⟩
          obtain ⟨ep, hep⟩ : ∃ ep, enc dj.toArray[jp]! = ep := ⟨_, rfl⟩
          have HLD := Lib.hid (HJ.out.1.loads HK.out (i := jp + 1) (j := jp) (by omega) (by omega) hk8 hej hep)
          have HCL : Hid (∀ w', Below wr.heap.size wr w' → Calls Try.prog 14 #[.agg ej.toArray, .agg ep.toArray] w' fun e w'' => e = .returned (.int .i64 (cf dj.toArray[jp + 1]! dj.toArray[jp]!)) ∧ Below w'.heap.size w' w'') := fun w' h => by rw [← hej, ← hep]; exact HC.out w' dj hsj (HA.out w' h) _ _
          have HFC : Hid (∀ w', Below wr.heap.size wr w' → _) := fun w' h => (HA.out w' h).facts HK.out H1.out (i := jp + 1) (j := jp) (by omega) (by omega) hk8 hej hep
          have HCV : Hid (cf dj.toArray[jp + 1]! dj.toArray[jp]! = cf (nth default dj (jp + 1)) (nth default dj jp)) := by show _ = _; rw [arr_nth dj (by omega), arr_nth dj (by omega)]
          clear hk8 hej hep
          generalize hcv : cf dj.toArray[jp + 1]! dj.toArray[jp]! = cv at *
          clear hcv
          by_cases hneg : cv < 0
          · skip
            go_upto_region 4 with fail
            refine wp_region_till (T := fun _ => false) (S := fun w' => Below wr.heap.size wr w') (by kernel_rfl) (Below.refl wr.heap.size wr).drew (fun hHeld => ?_)
            obtain ⟨w101, hw0⟩ : ∃ x, wr.drew = x := ⟨_, rfl⟩
            rw [hw0] at hHeld ⊢
            have hkA : Below wr.heap.size wr w101 := hHeld
            clear hHeld hw0
            refine wpTill_put 0 18 (oi := _) (v := ?_) rfl rfl (by kernel_rfl) (by kernel_rfl) (by kernel_rfl) (by kernel_rfl) (fun _ _ _ h => h) (by rfl) hkA ?_ ?_
            rotate_left
            · (intro w2' hSw; go_simp; (try with_reducible rfl))
            (try simp only [Act.put, List.setIfInBounds_toArray, List.set_cons_zero, List.set_cons_succ])
            refine wpTill_put 1 19 (oi := _) (v := ?_) rfl rfl (by kernel_rfl) (by kernel_rfl) (by kernel_rfl) (by kernel_rfl) (fun _ _ _ h => h) (by rfl) hkA ?_ ?_
            rotate_left
            · (intro w2' hSw; go_simp; (try with_reducible rfl))
            (try simp only [Act.put, List.setIfInBounds_toArray, List.set_cons_zero, List.set_cons_succ])
            refine wpTill_put 2 20 (oi := _) (v := ?_) rfl rfl (by kernel_rfl) (by kernel_rfl) (by kernel_rfl) (by kernel_rfl) (fun _ _ _ h => h) (by rfl) hkA ?_ ?_
            rotate_left
            · (intro w2' hSw; go_simp; (try with_reducible rfl))
            (try simp only [Act.put, List.setIfInBounds_toArray, List.set_cons_zero, List.set_cons_succ])
            refine wpTill_put 3 21 (oi := _) (v := ?_) rfl rfl (by kernel_rfl) (by kernel_rfl) (by kernel_rfl) (by kernel_rfl) (fun _ _ _ h => h) (by rfl) hkA ?_ ?_
            rotate_left
            · (intro w2' hSw; go_simp; (try with_reducible rfl))
            (try simp only [Act.put, List.setIfInBounds_toArray, List.set_cons_zero, List.set_cons_succ])
            refine wpTill_put 4 22 (oi := _) (v := ?_) rfl rfl (by kernel_rfl) (by kernel_rfl) (by kernel_rfl) (by kernel_rfl) (fun _ _ _ h => h) (by rfl) hkA ?_ ?_
            rotate_left
            · (intro w2' hSw; go_simp; (try with_reducible rfl))
            (try simp only [Act.put, List.setIfInBounds_toArray, List.set_cons_zero, List.set_cons_succ])
            refine wpTill_put 5 23 (oi := _) (v := ?_) rfl rfl (by kernel_rfl) (by kernel_rfl) (by kernel_rfl) (by kernel_rfl) (fun _ _ _ h => h) (by rfl) hkA ?_ ?_
            rotate_left
            · (intro w2' hSw; go_simp; (try with_reducible rfl))
            (try simp only [Act.put, List.setIfInBounds_toArray, List.set_cons_zero, List.set_cons_succ])
            refine wpTill_put 6 24 (oi := _) (v := ?_) rfl rfl (by kernel_rfl) (by kernel_rfl) (by kernel_rfl) (by kernel_rfl) (fun _ _ _ h => h) (by rfl) hkA ?_ ?_
            rotate_left
            · (intro w2' hSw; go_simp; (try with_reducible rfl))
            (try simp only [Act.put, List.setIfInBounds_toArray, List.set_cons_zero, List.set_cons_succ])
            refine wpTill_put 7 25 (oi := _) (v := ?_) rfl rfl (by kernel_rfl) (by kernel_rfl) (by kernel_rfl) (by kernel_rfl) (fun _ _ _ h => h) (by rfl) hkA ?_ ?_
            rotate_left
            · (intro w2' hSw; go_simp; (try with_reducible rfl))
            (try simp only [Act.put, List.setIfInBounds_toArray, List.set_cons_zero, List.set_cons_succ])
            refine wpTill_put 8 26 (oi := _) (v := ?_) rfl rfl (by kernel_rfl) (by kernel_rfl) (by kernel_rfl) (by kernel_rfl) (fun _ _ _ h => h) (by rfl) hkA ?_ ?_
            rotate_left
            · (intro w2' hSw; obtain ⟨l1, l2⟩ := HLD.out _ hSw; go_simp; (try with_reducible rfl))
            (try simp only [Act.put, List.setIfInBounds_toArray, List.set_cons_zero, List.set_cons_succ])
            refine wpTill_put 9 27 (oi := _) (v := ?_) rfl rfl (by kernel_rfl) (by kernel_rfl) (by kernel_rfl) (by kernel_rfl) (fun _ _ _ h => h) (by rfl) hkA ?_ ?_
            rotate_left
            · (intro w2' hSw; go_simp; (try with_reducible rfl))
            (try simp only [Act.put, List.setIfInBounds_toArray, List.set_cons_zero, List.set_cons_succ])
            refine wpTill_put 10 28 (oi := _) (v := ?_) rfl rfl (by kernel_rfl) (by kernel_rfl) (by kernel_rfl) (by kernel_rfl) (fun _ _ _ h => h) (by rfl) hkA ?_ ?_
            rotate_left
            · (intro w2' hSw; go_simp; (try with_reducible rfl))
            (try simp only [Act.put, List.setIfInBounds_toArray, List.set_cons_zero, List.set_cons_succ])
            refine wpTill_put 11 29 (oi := _) (v := ?_) rfl rfl (by kernel_rfl) (by kernel_rfl) (by kernel_rfl) (by kernel_rfl) (fun _ _ _ h => h) (by rfl) hkA ?_ ?_
            rotate_left
            · (intro w2' hSw; go_simp; (try with_reducible rfl))
            (try simp only [Act.put, List.setIfInBounds_toArray, List.set_cons_zero, List.set_cons_succ])
            refine wpTill_put 12 30 (oi := _) (v := ?_) rfl rfl (by kernel_rfl) (by kernel_rfl) (by kernel_rfl) (by kernel_rfl) (fun _ _ _ h => h) (by rfl) hkA ?_ ?_
            rotate_left
            · (intro w2' hSw; go_simp; (try with_reducible rfl))
            (try simp only [Act.put, List.setIfInBounds_toArray, List.set_cons_zero, List.set_cons_succ])
            refine wpTill_put 13 31 (oi := _) (v := ?_) rfl rfl (by kernel_rfl) (by kernel_rfl) (by kernel_rfl) (by kernel_rfl) (fun _ _ _ h => h) (by rfl) hkA ?_ ?_
            rotate_left
            · (intro w2' hSw; obtain ⟨l1, l2⟩ := HLD.out _ hSw; go_simp; (try with_reducible rfl))
            (try simp only [Act.put, List.setIfInBounds_toArray, List.set_cons_zero, List.set_cons_succ])
            refine wpTill_one 14 (o := _) (by kernel_rfl) rfl (fun K hK => ?_)
            go_simp
            refine (HCL.out _ hkA).mono ?_
            rintro e w102 ⟨rfl, hB5⟩
            have hkA := hkA.trans (hB5.mono hkA.size)
            refine hK.out _ _ (fun _ => hkA) (fun _ => ?_)
            clear hK K
            (try simp only [Act.put, List.setIfInBounds_toArray, List.set_cons_zero, List.set_cons_succ])
            refine wpTill_put 15 33 (oi := _) (v := ?_) rfl rfl (by kernel_rfl) (by kernel_rfl) (by kernel_rfl) (by kernel_rfl) (fun _ _ _ h => h) (by rfl) hkA ?_ ?_
            rotate_left
            · (intro w2' hSw; go_simp; (try with_reducible rfl))
            (try simp only [Act.put, List.setIfInBounds_toArray, List.set_cons_zero, List.set_cons_succ])
            refine wpTill_put 16 34 (oi := _) (v := ?_) rfl rfl (by kernel_rfl) (by kernel_rfl) (by kernel_rfl) (by kernel_rfl) (fun _ _ _ h => h) (by rfl) hkA ?_ ?_
            rotate_left
            · (intro w2' hSw; go_simp; (try with_reducible rfl))
            (try simp only [Act.put, List.setIfInBounds_toArray, List.set_cons_zero, List.set_cons_succ])
            refine wpTill_done (by kernel_rfl) ?_ _
            obtain ⟨wz, hwz⟩ : ∃ wz, w102 = wz := ⟨_, rfl⟩
            rw [hwz] at hkA ⊢
            clear hwz
            obtain ⟨li, lj, s1, s2, z1, z2, hrow⟩ := HFC.out _ hkA
            have HROW := Lib.hid hrow
            clear hrow
            go_wp2_with fail
            go_big_region_o
            all_goals go_wp2
            go_round
            case measure => (show ((jp : Int)).toNat < ((jp : Int) + 1).toNat; omega)
            case rel =>
              refine ⟨jp, swp default dj (jp + 1) jp, by go_num, by omega, by omega, by rw [swp_length]; exact hsj, Lib.hid ⟨HROW.out, ?_⟩⟩
              rw [← HJ.out.2, insDown, if_pos ⟨hja, by rw [decide_eq_true_eq, ← HCV.out]; exact hneg⟩]
          · skip
            go_upto_region 4 with fail
            refine wp_region_till (T := fun _ => false) (S := fun w' => Below wr.heap.size wr w') (by kernel_rfl) (Below.refl wr.heap.size wr).drew (fun hHeld => ?_)
            obtain ⟨w103, hw0⟩ : ∃ x, wr.drew = x := ⟨_, rfl⟩
            rw [hw0] at hHeld ⊢
            have hkA : Below wr.heap.size wr w103 := hHeld
            clear hHeld hw0
            refine wpTill_put 0 18 (oi := _) (v := ?_) rfl rfl (by kernel_rfl) (by kernel_rfl) (by kernel_rfl) (by kernel_rfl) (fun _ _ _ h => h) (by rfl) hkA ?_ ?_
            rotate_left
            · (intro w2' hSw; go_simp; (try with_reducible rfl))
            (try simp only [Act.put, List.setIfInBounds_toArray, List.set_cons_zero, List.set_cons_succ])
            refine wpTill_put 1 19 (oi := _) (v := ?_) rfl rfl (by kernel_rfl) (by kernel_rfl) (by kernel_rfl) (by kernel_rfl) (fun _ _ _ h => h) (by rfl) hkA ?_ ?_
            rotate_left
            · (intro w2' hSw; go_simp; (try with_reducible rfl))
            (try simp only [Act.put, List.setIfInBounds_toArray, List.set_cons_zero, List.set_cons_succ])
            refine wpTill_put 2 20 (oi := _) (v := ?_) rfl rfl (by kernel_rfl) (by kernel_rfl) (by kernel_rfl) (by kernel_rfl) (fun _ _ _ h => h) (by rfl) hkA ?_ ?_
            rotate_left
            · (intro w2' hSw; go_simp; (try with_reducible rfl))
            (try simp only [Act.put, List.setIfInBounds_toArray, List.set_cons_zero, List.set_cons_succ])
            refine wpTill_put 3 21 (oi := _) (v := ?_) rfl rfl (by kernel_rfl) (by kernel_rfl) (by kernel_rfl) (by kernel_rfl) (fun _ _ _ h => h) (by rfl) hkA ?_ ?_
            rotate_left
            · (intro w2' hSw; go_simp; (try with_reducible rfl))
            (try simp only [Act.put, List.setIfInBounds_toArray, List.set_cons_zero, List.set_cons_succ])
            refine wpTill_put 4 22 (oi := _) (v := ?_) rfl rfl (by kernel_rfl) (by kernel_rfl) (by kernel_rfl) (by kernel_rfl) (fun _ _ _ h => h) (by rfl) hkA ?_ ?_
            rotate_left
            · (intro w2' hSw; go_simp; (try with_reducible rfl))
            (try simp only [Act.put, List.setIfInBounds_toArray, List.set_cons_zero, List.set_cons_succ])
            refine wpTill_put 5 23 (oi := _) (v := ?_) rfl rfl (by kernel_rfl) (by kernel_rfl) (by kernel_rfl) (by kernel_rfl) (fun _ _ _ h => h) (by rfl) hkA ?_ ?_
            rotate_left
            · (intro w2' hSw; go_simp; (try with_reducible rfl))
            (try simp only [Act.put, List.setIfInBounds_toArray, List.set_cons_zero, List.set_cons_succ])
            refine wpTill_put 6 24 (oi := _) (v := ?_) rfl rfl (by kernel_rfl) (by kernel_rfl) (by kernel_rfl) (by kernel_rfl) (fun _ _ _ h => h) (by rfl) hkA ?_ ?_
            rotate_left
            · (intro w2' hSw; go_simp; (try with_reducible rfl))
            (try simp only [Act.put, List.setIfInBounds_toArray, List.set_cons_zero, List.set_cons_succ])
            refine wpTill_put 7 25 (oi := _) (v := ?_) rfl rfl (by kernel_rfl) (by kernel_rfl) (by kernel_rfl) (by kernel_rfl) (fun _ _ _ h => h) (by rfl) hkA ?_ ?_
            rotate_left
            · (intro w2' hSw; go_simp; (try with_reducible rfl))
            (try simp only [Act.put, List.setIfInBounds_toArray, List.set_cons_zero, List.set_cons_succ])
            refine wpTill_put 8 26 (oi := _) (v := ?_) rfl rfl (by kernel_rfl) (by kernel_rfl) (by kernel_rfl) (by kernel_rfl) (fun _ _ _ h => h) (by rfl) hkA ?_ ?_
            rotate_left
            · (intro w2' hSw; obtain ⟨l1, l2⟩ := HLD.out _ hSw; go_simp; (try with_reducible rfl))
            (try simp only [Act.put, List.setIfInBounds_toArray, List.set_cons_zero, List.set_cons_succ])
            refine wpTill_put 9 27 (oi := _) (v := ?_) rfl rfl (by kernel_rfl) (by kernel_rfl) (by kernel_rfl) (by kernel_rfl) (fun _ _ _ h => h) (by rfl) hkA ?_ ?_
            rotate_left
            · (intro w2' hSw; go_simp; (try with_reducible rfl))
            (try simp only [Act.put, List.setIfInBounds_toArray, List.set_cons_zero, List.set_cons_succ])
            refine wpTill_put 10 28 (oi := _) (v := ?_) rfl rfl (by kernel_rfl) (by kernel_rfl) (by kernel_rfl) (by kernel_rfl) (fun _ _ _ h => h) (by rfl) hkA ?_ ?_
            rotate_left
            · (intro w2' hSw; go_simp; (try with_reducible rfl))
            (try simp only [Act.put, List.setIfInBounds_toArray, List.set_cons_zero, List.set_cons_succ])
            refine wpTill_put 11 29 (oi := _) (v := ?_) rfl rfl (by kernel_rfl) (by kernel_rfl) (by kernel_rfl) (by kernel_rfl) (fun _ _ _ h => h) (by rfl) hkA ?_ ?_
            rotate_left
            · (intro w2' hSw; go_simp; (try with_reducible rfl))
            (try simp only [Act.put, List.setIfInBounds_toArray, List.set_cons_zero, List.set_cons_succ])
            refine wpTill_put 12 30 (oi := _) (v := ?_) rfl rfl (by kernel_rfl) (by kernel_rfl) (by kernel_rfl) (by kernel_rfl) (fun _ _ _ h => h) (by rfl) hkA ?_ ?_
            rotate_left
            · (intro w2' hSw; go_simp; (try with_reducible rfl))
            (try simp only [Act.put, List.setIfInBounds_toArray, List.set_cons_zero, List.set_cons_succ])
            refine wpTill_put 13 31 (oi := _) (v := ?_) rfl rfl (by kernel_rfl) (by kernel_rfl) (by kernel_rfl) (by kernel_rfl) (fun _ _ _ h => h) (by rfl) hkA ?_ ?_
            rotate_left
            · (intro w2' hSw; obtain ⟨l1, l2⟩ := HLD.out _ hSw; go_simp; (try with_reducible rfl))
            (try simp only [Act.put, List.setIfInBounds_toArray, List.set_cons_zero, List.set_cons_succ])
            refine wpTill_one 14 (o := _) (by kernel_rfl) rfl (fun K hK => ?_)
            go_simp
            refine (HCL.out _ hkA).mono ?_
            rintro e w104 ⟨rfl, hB5⟩
            have hkA := hkA.trans (hB5.mono hkA.size)
            refine hK.out _ _ (fun _ => hkA) (fun _ => ?_)
            clear hK K
            (try simp only [Act.put, List.setIfInBounds_toArray, List.set_cons_zero, List.set_cons_succ])
            refine wpTill_put 15 33 (oi := _) (v := ?_) rfl rfl (by kernel_rfl) (by kernel_rfl) (by kernel_rfl) (by kernel_rfl) (fun _ _ _ h => h) (by rfl) hkA ?_ ?_
            rotate_left
            · (intro w2' hSw; go_simp; (try with_reducible rfl))
            (try simp only [Act.put, List.setIfInBounds_toArray, List.set_cons_zero, List.set_cons_succ])
            refine wpTill_put 16 34 (oi := _) (v := ?_) rfl rfl (by kernel_rfl) (by kernel_rfl) (by kernel_rfl) (by kernel_rfl) (fun _ _ _ h => h) (by rfl) hkA ?_ ?_
            rotate_left
            · (intro w2' hSw; go_simp; (try with_reducible rfl))
            (try simp only [Act.put, List.setIfInBounds_toArray, List.set_cons_zero, List.set_cons_succ])
            refine wpTill_done (by kernel_rfl) ?_ _
            obtain ⟨wz, hwz⟩ : ∃ wz, w104 = wz := ⟨_, rfl⟩
            rw [hwz] at hkA ⊢
            clear hwz
            have hrow := HA.out _ hkA
            have HROW := Lib.hid hrow
            clear hrow
            all_goals go_wp2
            go_round
            case measure => (show b + 1 - ((i : Int) + 1).toNat < b + 1 - ((i : Int)).toNat; omega)
            case rel =>
              refine ⟨i + 1, dj, by go_num, by omega, by omega, hsj, Lib.hid ⟨HROW.out, ?_⟩⟩
              have e1 := HI.out.2
              have e2 := HJ.out.2
              rw [show b - i = (b - (i + 1)) + 1 by omega, insAll, show b - (b - (i + 1) + 1) = i by omega, ← e2] at e1
              rw [← e1]
              congr 1
              rw [insDown, if_neg (fun h => hneg (by rw [HCV.out]; exact of_decide_eq_true h.2))]
        · have hjaz : ¬ (a : Int) < (j : Int) := by omega
          have hjd : decide ((j : Int) > (a : Int)) = false := decide_eq_false (by omega)
          have HDR : Hid (RowAt enc w0 blk off wr.drew dj) := HJ.out.1.below (Below.refl wr.heap.size wr).drew
          go_wp2_with fail
          go_big_region_o
          all_goals go_wp2
          go_round
          case measure => (show b + 1 - ((i : Int) + 1).toNat < b + 1 - ((i : Int)).toNat; omega)
          case rel =>
            refine ⟨i + 1, dj, by go_num, by omega, by omega, hsj, Lib.hid ⟨HDR.out, ?_⟩⟩
            have e1 := HI.out.2
            have e2 := HJ.out.2
            rw [show b - i = (b - (i + 1)) + 1 by omega, insAll, show b - (b - (i + 1) + 1) = i by omega, ← e2] at e1
            rw [← e1]
            congr 1
            cases j with
            | zero => rfl
            | succ k => rw [insDown, if_neg (fun h => hja h.1)]
    · have hltz : ¬ (i : Int) < (b : Int) := by omega
      go_wp2
      go_end0
      refine ⟨rfl, ?_⟩
      have := HI.out
      rw [show b - i = 0 by omega, insAll] at this
      rw [← this.2]
      exact this.1
end Go.Proofs.Ytolpgblegbahgaa
