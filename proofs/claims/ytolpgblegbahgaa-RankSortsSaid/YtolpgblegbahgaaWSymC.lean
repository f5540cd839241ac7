/- slices.symMergeCmpFunc at candidates: its rotation, and itself on both halves. Condition: the stretch lies in the row. -/
import Derived.Test.YtolpgblegbahgaaWSymB
import Derived.Test.YtolpgblegbahgaaWRotate
namespace Go.Proofs.Ytolpgblegbahgaa
open Go.RowKit Go.Shelf Go.Sort
set_option linter.unusedVariables false
set_option linter.unusedSimpArgs false

/-- a search's state -/
def BsInv (lo hi X : Nat) (p : Nat → Bool) (R : World → Prop) (vi vj : Value) (w : World) : Prop := ∃ (i j g : Nat), vi = .int .i64 i ∧ vj = .int .i64 j ∧ lo ≤ i ∧ i ≤ j ∧ j ≤ hi ∧ j - i < g ∧ Hid (R w ∧ bsF p g i j = X)
theorem rotate_row {α : Type} [Inhabited α] (enc : α → List Value) (hk : ∀ x, (enc x).length = 8) (h1 : ∀ x, ∀ v ∈ enc x, v.oneCell' = true) {w0 w : World} {blk off cap a m b n : Nat} (f : Value) {l : List α} (hl : l.length = n)
    (h : RowAt enc w0 blk off w l) (ham : a < m) (hmb : m < b) (hb : b ≤ n) (hsz : n < 1000000) :
    Calls Try.prog 43 #[.slice (some ⟨blk, off, none⟩) n cap, .int .i64 a, .int .i64 m, .int .i64 b, f] w fun e w' => e = .returned (.tuple #[]) ∧ RowAt enc w0 blk off w' (rot default a m b l) := by
  subst hl
  refine (rotate_any enc hk h1 w blk off cap a m b f l h.1 ham hmb hb (by omega)).mono ?_
  rintro e w' ⟨rfl, q, rfl⟩
  exact ⟨rfl, h.put (rotL_length default m _ _ _ l)⟩
theorem symRot_length {α : Type} (d : α) (m s e : Nat) (l : List α) : (symRot d m s e l).length = l.length := by
  unfold symRot
  split
  · exact rotL_length d _ _ _ _ _
  · rfl
/-- where symMerge looks, and that it is within -/
theorem sym_range {a m b : Nat} (ham : a + 1 < m) (hmb : m + 1 < b) : a ≤ symLo a m b ∧ symLo a m b ≤ symHi a m b ∧ symHi a m b + 1 ≤ (a + b) / 2 + m ∧ (a + b) / 2 + m ≤ symLo a m b + b ∧ symHi a m b < b := by
  unfold symLo symHi
  split <;> omega
set_option maxRecDepth 100000 in
set_option maxHeartbeats 6400000 in
theorem symC_any {α : Type} [Inhabited α] (enc : α → List Value) (hk : ∀ x, (enc x).length = 8) (h1 : ∀ x, ∀ v ∈ enc x, v.oneCell' = true) (cf : α → α → Int) (w0 w : World) (blk off cap n a m b f : Nat) (l : List α) (hl : l.length = n)
    (hR : RowAt enc w0 blk off w l) (hcmp : CmpBel enc w0 blk off n 14 cf) (ham : a + 1 < m) (hmb : m + 1 < b) (hb : b ≤ n) (hsz : n < 1000000) (hf : b - a ≤ f + 1)
    (hrec : ∀ (w : World) (a m b : Nat) (l : List α), l.length = n → RowAt enc w0 blk off w l → a < m → m < b → b ≤ n → b - a ≤ f →
      Calls Try.prog 40 #[.slice (some ⟨blk, off, none⟩) n cap, .int .i64 a, .int .i64 m, .int .i64 b, .func (.func 14) #[] #[]] w fun e w' => e = .returned (.tuple #[]) ∧ RowAt enc w0 blk off w' (symM default (fun x y => decide (cf x y < 0)) f a m b l)) :
    Calls Try.prog 40 #[.slice (some ⟨blk, off, none⟩) n cap, .int .i64 a, .int .i64 m, .int .i64 b, .func (.func 14) #[] #[]] w fun e w' =>
      e = .returned (.tuple #[]) ∧ RowAt enc w0 blk off w' (symM default (fun x y => decide (cf x y < 0)) (f + 1) a m b l) := by
  have HR := Lib.hid hR
  have HC := Lib.hid hcmp
  have HRC := Lib.hid hrec
  have HK : Hid (∀ x, (enc x).length = 8) := hk
  have H1 : Hid (∀ x, ∀ v ∈ enc x, v.oneCell' = true) := h1
  have HL := Lib.hid hl
  have HRT := Lib.hid (fun w' s e (h : RowAt enc w0 blk off w' l) (h2 : s < m) (h3 : m < e) (h4 : e ≤ n) => rotate_row enc hk h1 (cap := cap) (.func (.func 14) #[] #[]) hl h h2 h3 h4 hsz)
  obtain ⟨mi, hmi⟩ : ∃ d : Nat, d = (a + b) / 2 := ⟨_, rfl⟩
  obtain ⟨lo, hlo⟩ : ∃ x, symLo a m b = x := ⟨_, rfl⟩
  obtain ⟨hi, hhi⟩ : ∃ x, symHi a m b = x := ⟨_, rfl⟩
  obtain ⟨ra, rl, rp, rb, rn⟩ := sym_range ham hmb
  rw [← hmi, hlo] at rb
  rw [← hmi, hhi] at rp
  rw [hlo] at ra
  rw [hlo, hhi] at rl
  rw [hhi] at rn
  obtain ⟨X, hX⟩ : ∃ X, bsF (fun c => !decide (cf (nth default l (mi + m - 1 - c)) (nth default l c) < 0)) (hi - lo + 1) lo hi = X := ⟨_, rfl⟩
  have hfin : symM default (fun x y => decide (cf x y < 0)) (f + 1) a m b l =
      let l1 := symRot default m X (mi + m - X) l
      let l2 := if a < X ∧ X < mi then symM default (fun x y => decide (cf x y < 0)) f a X mi l1 else l1
      if mi < mi + m - X ∧ mi + m - X < b then symM default (fun x y => decide (cf x y < 0)) f mi (mi + m - X) b l2 else l2 := by
    rw [symM, if_neg (by omega), if_neg (by omega)]
    have hs : symAt default (fun x y => decide (cf x y < 0)) a m b l = X := by
      unfold symAt
      rw [hlo, hhi, ← hmi]
      exact hX
    rw [hs, ← hmi]
  rw [hfin]
  have hXl : lo ≤ X ∧ X ≤ hi := by
    have h0 : ∀ (p : Nat → Bool) (g i j : Nat), i ≤ j → i ≤ bsF p g i j ∧ bsF p g i j ≤ j := by
      intro p g
      induction g with
      | zero => intro i j h; exact ⟨Nat.le_refl _, h⟩
      | succ g ih =>
        intro i j h
        rw [bsF]
        split
        · split
          · have := ih ((i + j) / 2 + 1) j (by omega); omega
          · have := ih i ((i + j) / 2) (by omega); omega
        · omega
    rw [← hX]
    exact h0 _ _ _ _ rl
  obtain ⟨hXlo, hXhi⟩ := hXl
  have HX := Lib.hid hX
  obtain ⟨dm, hdm⟩ : ∃ d : Nat, d = m - a := ⟨_, rfl⟩
  obtain ⟨db, hdb⟩ : ∃ d : Nat, d = b - m := ⟨_, rfl⟩
  have hwd : IntKind.i64.wrap ((m : Int) - (a : Int)) = (dm : Int) := by rw [IntKind.wrap_i64]; omega
  have hwb : IntKind.i64.wrap ((b : Int) - (m : Int)) = (db : Int) := by rw [IntKind.wrap_i64]; omega
  have hdn : ¬ (dm : Int) = 1 := by omega
  have hbn : ¬ (db : Int) = 1 := by omega
  have hme : ((a : Int) + (b : Int)) / 2 = (mi : Int) := by omega
  have hsum : (0 : Int) ≤ (a : Int) + (b : Int) := by omega
  have hsum2 : (a : Int) + (b : Int) ≤ 281474976710656 := by omega
  obtain ⟨nn, hnn⟩ : ∃ d : Nat, d = mi + m := ⟨_, rfl⟩
  have hwn : IntKind.i64.wrap ((mi : Int) + (m : Int)) = (nn : Int) := by rw [IntKind.wrap_i64]; omega
  obtain ⟨pp, hpp⟩ : ∃ d : Nat, d = nn - 1 := ⟨_, rfl⟩
  have hwp : IntKind.i64.wrap ((nn : Int) - 1) = (pp : Int) := by rw [IntKind.wrap_i64]; omega
  obtain ⟨ee, hee⟩ : ∃ d : Nat, d = nn - X := ⟨_, rfl⟩
  have hwe : IntKind.i64.wrap ((nn : Int) - (X : Int)) = (ee : Int) := by rw [IntKind.wrap_i64]; omega
  have HE : Hid (ee = mi + m - X) := by show _ = _; omega
  rw [← HE.out]
  obtain ⟨R, hR2⟩ : ∃ R, (let l1 := symRot default m X ee l
      let l2 := if a < X ∧ X < mi then symM default (fun x y => decide (cf x y < 0)) f a X mi l1 else l1
      if mi < ee ∧ ee < b then symM default (fun x y => decide (cf x y < 0)) f mi ee b l2 else l2) = R := ⟨_, rfl⟩
  rw [hR2]
  have HFIN := Lib.hid hR2
  clear hR2
  have hEb : ee ≤ b := by omega
  have hph : hi ≤ pp := by omega
  have hpb : pp < lo + b := by omega
  have hmib : mi < b := by omega
  have hami : a < mi := by omega
  have HPP : Hid (pp = mi + m - 1) := by show _ = _; omega
  have HLH : Hid ((mi < m → lo = nn - b ∧ hi = mi ∧ b ≤ nn) ∧ (¬ mi < m → lo = a ∧ hi = m)) := by
    show _ ∧ _
    rw [← hlo, ← hhi]
    unfold symLo symHi
    rw [← hmi, hnn]
    refine ⟨fun h => ?_, fun h => ?_⟩
    · rw [if_pos h, if_pos h]; exact ⟨rfl, rfl, by omega⟩
    · rw [if_neg h, if_neg h]; exact ⟨rfl, rfl⟩
  clear hR hcmp hk h1 hl hrec hlo hhi hX hdm hdb hnn hpp hee hfin hmi
  have mixed : Try.prog.follows .mixedOrders = true := by kernel_rfl
  obtain ⟨k, hk8⟩ : ∃ k, k = 8 := ⟨_, rfl⟩
  have aE : ∀ w, (isAgg 33).run Try.prog w = .ok true w := Try.isAgg33
  have zE : ∀ w, (Go.sizeOf 33).run Try.prog w = .ok k w := by rw [hk8]; exact Try.sizeOf33
  have H8 := Lib.hid hk8
  clear hk8
  go_enter Try.func40, Try.ntmps40
  go_upto_if 140 with fail
  go_cut [20, 21] (fun s20 s21 wx => s20 = .int .i64 lo ∧ s21 = .int .i64 hi ∧ wx = w)
  case first =>
    by_cases hc : mi < m
    · have hcz : (mi : Int) < (m : Int) := by omega
      obtain ⟨e1, e2, e3⟩ := HLH.out.1 hc
      have hwl : IntKind.i64.wrap ((nn : Int) - (b : Int)) = (lo : Int) := by rw [IntKind.wrap_i64]; omega
      have E2 := Lib.hid e2
      clear e1 e2 e3
      go_wp2_with fail
      go_meet
      exact ⟨rfl, by rw [E2.out], rfl⟩
    · have hcz : ¬ (mi : Int) < (m : Int) := by omega
      obtain ⟨e1, e2⟩ := HLH.out.2 hc
      have E1 := Lib.hid e1
      have E2 := Lib.hid e2
      clear e1 e2
      go_wp2_with fail
      go_meet
      exact ⟨by rw [E1.out], by rw [E2.out], rfl⟩
  case rest =>
    obtain ⟨rfl, rfl, hwc⟩ := hcut
    have hwc := hwc.symm
    subst hwc
    go_wp2_with fail
    go_loopw [20, 21] (fun vi vj wr => BsInv lo hi X (fun c => !decide (cf (nth default l (mi + m - 1 - c)) (nth default l c) < 0)) (fun wr => RowAt enc w0 blk off wr l) vi vj wr) (fun vi vj _ => (intOf vj).toNat - (intOf vi).toNat)
    case atStart => exact ⟨lo, hi, hi - lo + 1, rfl, rfl, by omega, by omega, by omega, by omega, Lib.hid ⟨HR.out, HX.out⟩⟩
    case round =>
      obtain ⟨i, j, g, rfl, rfl, hli, hij, hjh, hg, HJ⟩ := hrel
      by_cases hlt : i < j
      · obtain ⟨g, rfl⟩ : ∃ g', g = g' + 1 := ⟨g - 1, by omega⟩
        obtain ⟨h, hh⟩ : ∃ h : Nat, h = (i + j) / 2 := ⟨_, rfl⟩
        have hih : i ≤ h := by omega
        have hhj : h < j := by omega
        have hme2 : ((i : Int) + (j : Int)) / 2 = (h : Int) := by omega
        have hsum3 : (0 : Int) ≤ (i : Int) + (j : Int) := by omega
        have hsum4 : (i : Int) + (j : Int) ≤ 281474976710656 := by omega
        have hhn : (h : Int) < (n : Int) := by omega
        obtain ⟨y, hy⟩ : ∃ y : Nat, y = pp - h := ⟨_, rfl⟩
        have hwy : IntKind.i64.wrap ((pp : Int) - (h : Int)) = (y : Int) := by rw [IntKind.wrap_i64]; omega
        have hyn : (y : Int) < (n : Int) := by omega
        have HY : Hid (y = mi + m - 1 - h) := by show _ = _; rw [← HPP.out]; exact hy
        have HH := Lib.hid hh
        clear hh hy
        obtain ⟨ei, hei⟩ : ∃ e, enc l.toArray[h]! = e := ⟨_, rfl⟩
        obtain ⟨ea, hea⟩ : ∃ e, enc l.toArray[y]! = e := ⟨_, rfl⟩
        have HA : Hid (∀ w', Below wr.heap.size wr w' → RowAt enc w0 blk off w' l) := fun w' h => HJ.out.1.below h
        have HLD := Lib.hid (HJ.out.1.loads HK.out (i := y) (j := h) (by rw [HL.out]; omega) (by rw [HL.out]; omega) H8.out hea hei)
        have HCL : Hid (∀ w', Below wr.heap.size wr w' → Calls Try.prog 14 #[.agg ea.toArray, .agg ei.toArray] w' fun e w'' => e = .returned (.int .i64 (cf l.toArray[y]! l.toArray[h]!)) ∧ Below w'.heap.size w' w'') := fun w' h => by rw [← hei, ← hea]; exact HC.out w' l HL.out (HA.out w' h) _ _
        have HCV : Hid (cf l.toArray[y]! l.toArray[h]! = cf (nth default l (mi + m - 1 - h)) (nth default l h)) := by show _ = _; rw [arr_nth l (by rw [HL.out]; omega), arr_nth l (by rw [HL.out]; omega), HY.out]
        clear hei hea
        generalize hcv : cf l.toArray[y]! l.toArray[h]! = cv at *
        clear hcv
        by_cases hneg : cv < 0
        · as_aux_lemma =>
            go_upto_region 35 with fail
            refine wp_region_till (T := fun _ => false) (S := fun w' => Below wr.heap.size wr w') (by kernel_rfl) (Below.refl wr.heap.size wr).drew (fun hHeld => ?_)
            obtain ⟨w101, hw0⟩ : ∃ x, wr.drew = x := ⟨_, rfl⟩
            rw [hw0] at hHeld ⊢
            have hkA : Below wr.heap.size wr w101 := hHeld
            clear hHeld hw0
            refine wpTill_put 0 158 (oi := _) (v := ?_) rfl rfl (by kernel_rfl) (by kernel_rfl) (by kernel_rfl) (by kernel_rfl) (fun _ _ _ h => h) (by rfl) hkA ?_ ?_
            rotate_left
            · (intro w2' hSw; go_simp; (try with_reducible rfl))
            (try simp only [Act.put, List.setIfInBounds_toArray, List.set_cons_zero, List.set_cons_succ])
            refine wpTill_put 1 159 (oi := _) (v := ?_) rfl rfl (by kernel_rfl) (by kernel_rfl) (by kernel_rfl) (by kernel_rfl) (fun _ _ _ h => h) (by rfl) hkA ?_ ?_
            rotate_left
            · (intro w2' hSw; go_simp; (try with_reducible rfl))
            (try simp only [Act.put, List.setIfInBounds_toArray, List.set_cons_zero, List.set_cons_succ])
            refine wpTill_put 2 160 (oi := _) (v := ?_) rfl rfl (by kernel_rfl) (by kernel_rfl) (by kernel_rfl) (by kernel_rfl) (fun _ _ _ h => h) (by rfl) hkA ?_ ?_
            rotate_left
            · (intro w2' hSw; go_simp; (try with_reducible rfl))
            (try simp only [Act.put, List.setIfInBounds_toArray, List.set_cons_zero, List.set_cons_succ])
            refine wpTill_put 3 161 (oi := _) (v := ?_) rfl rfl (by kernel_rfl) (by kernel_rfl) (by kernel_rfl) (by kernel_rfl) (fun _ _ _ h => h) (by rfl) hkA ?_ ?_
            rotate_left
            · (intro w2' hSw; go_simp; (try with_reducible rfl))
            (try simp only [Act.put, List.setIfInBounds_toArray, List.set_cons_zero, List.set_cons_succ])
            refine wpTill_put 4 162 (oi := _) (v := ?_) rfl rfl (by kernel_rfl) (by kernel_rfl) (by kernel_rfl) (by kernel_rfl) (fun _ _ _ h => h) (by rfl) hkA ?_ ?_
            rotate_left
            · (intro w2' hSw; go_simp; (try with_reducible rfl))
            (try simp only [Act.put, List.setIfInBounds_toArray, List.set_cons_zero, List.set_cons_succ])
            refine wpTill_put 5 163 (oi := _) (v := ?_) rfl rfl (by kernel_rfl) (by kernel_rfl) (by kernel_rfl) (by kernel_rfl) (fun _ _ _ h => h) (by rfl) hkA ?_ ?_
            rotate_left
            · (intro w2' hSw; go_simp; (try with_reducible rfl))
            (try simp only [Act.put, List.setIfInBounds_toArray, List.set_cons_zero, List.set_cons_succ])
            refine wpTill_put 6 164 (oi := _) (v := ?_) rfl rfl (by kernel_rfl) (by kernel_rfl) (by kernel_rfl) (by kernel_rfl) (fun _ _ _ h => h) (by rfl) hkA ?_ ?_
            rotate_left
            · (intro w2' hSw; obtain ⟨l1, l2⟩ := HLD.out _ hSw; go_simp; (try with_reducible rfl))
            (try simp only [Act.put, List.setIfInBounds_toArray, List.set_cons_zero, List.set_cons_succ])
            refine wpTill_put 7 165 (oi := _) (v := ?_) rfl rfl (by kernel_rfl) (by kernel_rfl) (by kernel_rfl) (by kernel_rfl) (fun _ _ _ h => h) (by rfl) hkA ?_ ?_
            rotate_left
            · (intro w2' hSw; go_simp; (try with_reducible rfl))
            (try simp only [Act.put, List.setIfInBounds_toArray, List.set_cons_zero, List.set_cons_succ])
            refine wpTill_put 8 166 (oi := _) (v := ?_) rfl rfl (by kernel_rfl) (by kernel_rfl) (by kernel_rfl) (by kernel_rfl) (fun _ _ _ h => h) (by rfl) hkA ?_ ?_
            rotate_left
            · (intro w2' hSw; go_simp; (try with_reducible rfl))
            (try simp only [Act.put, List.setIfInBounds_toArray, List.set_cons_zero, List.set_cons_succ])
            refine wpTill_put 9 167 (oi := _) (v := ?_) rfl rfl (by kernel_rfl) (by kernel_rfl) (by kernel_rfl) (by kernel_rfl) (fun _ _ _ h => h) (by rfl) hkA ?_ ?_
            rotate_left
            · (intro w2' hSw; go_simp; (try with_reducible rfl))
            (try simp only [Act.put, List.setIfInBounds_toArray, List.set_cons_zero, List.set_cons_succ])
            refine wpTill_put 10 168 (oi := _) (v := ?_) rfl rfl (by kernel_rfl) (by kernel_rfl) (by kernel_rfl) (by kernel_rfl) (fun _ _ _ h => h) (by rfl) hkA ?_ ?_
            rotate_left
            · (intro w2' hSw; obtain ⟨l1, l2⟩ := HLD.out _ hSw; go_simp; (try with_reducible rfl))
            (try simp only [Act.put, List.setIfInBounds_toArray, List.set_cons_zero, List.set_cons_succ])
            refine wpTill_one 11 (o := _) (by kernel_rfl) rfl (fun K hK => ?_)
            go_simp
            refine (HCL.out _ hkA).mono ?_
            rintro e w102 ⟨rfl, hB5⟩
            have hkA := hkA.trans (hB5.mono hkA.size)
            refine hK.out _ _ (fun _ => hkA) (fun _ => ?_)
            clear hK K
            (try simp only [Act.put, List.setIfInBounds_toArray, List.set_cons_zero, List.set_cons_succ])
            refine wpTill_put 12 170 (oi := _) (v := ?_) rfl rfl (by kernel_rfl) (by kernel_rfl) (by kernel_rfl) (by kernel_rfl) (fun _ _ _ h => h) (by rfl) hkA ?_ ?_
            rotate_left
            · (intro w2' hSw; go_simp; (try with_reducible rfl))
            (try simp only [Act.put, List.setIfInBounds_toArray, List.set_cons_zero, List.set_cons_succ])
            refine wpTill_put 13 171 (oi := _) (v := ?_) rfl rfl (by kernel_rfl) (by kernel_rfl) (by kernel_rfl) (by kernel_rfl) (fun _ _ _ h => h) (by rfl) hkA ?_ ?_
            rotate_left
            · (intro w2' hSw; go_simp; (try with_reducible rfl))
            (try simp only [Act.put, List.setIfInBounds_toArray, List.set_cons_zero, List.set_cons_succ])
            refine wpTill_done (by kernel_rfl) ?_ _
            obtain ⟨wz, hwz⟩ : ∃ wz, w102 = wz := ⟨_, rfl⟩
            rw [hwz] at hkA ⊢
            clear hwz
            have HROW := Lib.hid (HA.out _ hkA)
            go_wp2_with fail
            go_roundw
            case rel => exact ⟨i, h, g, rfl, rfl, by omega, by omega, by omega, by omega, Lib.hid ⟨HROW.out, by rw [← HJ.out.2]; exact (bsF_dn _ hlt HH.out (by rw [← HCV.out, decide_eq_true hneg]; rfl)).symm⟩⟩
            case measure => simp [intOf]; omega
        · as_aux_lemma =>
            go_upto_region 35 with fail
            refine wp_region_till (T := fun _ => false) (S := fun w' => Below wr.heap.size wr w') (by kernel_rfl) (Below.refl wr.heap.size wr).drew (fun hHeld => ?_)
            obtain ⟨w103, hw0⟩ : ∃ x, wr.drew = x := ⟨_, rfl⟩
            rw [hw0] at hHeld ⊢
            have hkA : Below wr.heap.size wr w103 := hHeld
            clear hHeld hw0
            refine wpTill_put 0 158 (oi := _) (v := ?_) rfl rfl (by kernel_rfl) (by kernel_rfl) (by kernel_rfl) (by kernel_rfl) (fun _ _ _ h => h) (by rfl) hkA ?_ ?_
            rotate_left
            · (intro w2' hSw; go_simp; (try with_reducible rfl))
            (try simp only [Act.put, List.setIfInBounds_toArray, List.set_cons_zero, List.set_cons_succ])
            refine wpTill_put 1 159 (oi := _) (v := ?_) rfl rfl (by kernel_rfl) (by kernel_rfl) (by kernel_rfl) (by kernel_rfl) (fun _ _ _ h => h) (by rfl) hkA ?_ ?_
            rotate_left
            · (intro w2' hSw; go_simp; (try with_reducible rfl))
            (try simp only [Act.put, List.setIfInBounds_toArray, List.set_cons_zero, List.set_cons_succ])
            refine wpTill_put 2 160 (oi := _) (v := ?_) rfl rfl (by kernel_rfl) (by kernel_rfl) (by kernel_rfl) (by kernel_rfl) (fun _ _ _ h => h) (by rfl) hkA ?_ ?_
            rotate_left
            · (intro w2' hSw; go_simp; (try with_reducible rfl))
            (try simp only [Act.put, List.setIfInBounds_toArray, List.set_cons_zero, List.set_cons_succ])
            refine wpTill_put 3 161 (oi := _) (v := ?_) rfl rfl (by kernel_rfl) (by kernel_rfl) (by kernel_rfl) (by kernel_rfl) (fun _ _ _ h => h) (by rfl) hkA ?_ ?_
            rotate_left
            · (intro w2' hSw; go_simp; (try with_reducible rfl))
            (try simp only [Act.put, List.setIfInBounds_toArray, List.set_cons_zero, List.set_cons_succ])
            refine wpTill_put 4 162 (oi := _) (v := ?_) rfl rfl (by kernel_rfl) (by kernel_rfl) (by kernel_rfl) (by kernel_rfl) (fun _ _ _ h => h) (by rfl) hkA ?_ ?_
            rotate_left
            · (intro w2' hSw; go_simp; (try with_reducible rfl))
            (try simp only [Act.put, List.setIfInBounds_toArray, List.set_cons_zero, List.set_cons_succ])
            refine wpTill_put 5 163 (oi := _) (v := ?_) rfl rfl (by kernel_rfl) (by kernel_rfl) (by kernel_rfl) (by kernel_rfl) (fun _ _ _ h => h) (by rfl) hkA ?_ ?_
            rotate_left
            · (intro w2' hSw; go_simp; (try with_reducible rfl))
            (try simp only [Act.put, List.setIfInBounds_toArray, List.set_cons_zero, List.set_cons_succ])
            refine wpTill_put 6 164 (oi := _) (v := ?_) rfl rfl (by kernel_rfl) (by kernel_rfl) (by kernel_rfl) (by kernel_rfl) (fun _ _ _ h => h) (by rfl) hkA ?_ ?_
            rotate_left
            · (intro w2' hSw; obtain ⟨l1, l2⟩ := HLD.out _ hSw; go_simp; (try with_reducible rfl))
            (try simp only [Act.put, List.setIfInBounds_toArray, List.set_cons_zero, List.set_cons_succ])
            refine wpTill_put 7 165 (oi := _) (v := ?_) rfl rfl (by kernel_rfl) (by kernel_rfl) (by kernel_rfl) (by kernel_rfl) (fun _ _ _ h => h) (by rfl) hkA ?_ ?_
            rotate_left
            · (intro w2' hSw; go_simp; (try with_reducible rfl))
            (try simp only [Act.put, List.setIfInBounds_toArray, List.set_cons_zero, List.set_cons_succ])
            refine wpTill_put 8 166 (oi := _) (v := ?_) rfl rfl (by kernel_rfl) (by kernel_rfl) (by kernel_rfl) (by kernel_rfl) (fun _ _ _ h => h) (by rfl) hkA ?_ ?_
            rotate_left
            · (intro w2' hSw; go_simp; (try with_reducible rfl))
            (try simp only [Act.put, List.setIfInBounds_toArray, List.set_cons_zero, List.set_cons_succ])
            refine wpTill_put 9 167 (oi := _) (v := ?_) rfl rfl (by kernel_rfl) (by kernel_rfl) (by kernel_rfl) (by kernel_rfl) (fun _ _ _ h => h) (by rfl) hkA ?_ ?_
            rotate_left
            · (intro w2' hSw; go_simp; (try with_reducible rfl))
            (try simp only [Act.put, List.setIfInBounds_toArray, List.set_cons_zero, List.set_cons_succ])
            refine wpTill_put 10 168 (oi := _) (v := ?_) rfl rfl (by kernel_rfl) (by kernel_rfl) (by kernel_rfl) (by kernel_rfl) (fun _ _ _ h => h) (by rfl) hkA ?_ ?_
            rotate_left
            · (intro w2' hSw; obtain ⟨l1, l2⟩ := HLD.out _ hSw; go_simp; (try with_reducible rfl))
            (try simp only [Act.put, List.setIfInBounds_toArray, List.set_cons_zero, List.set_cons_succ])
            refine wpTill_one 11 (o := _) (by kernel_rfl) rfl (fun K hK => ?_)
            go_simp
            refine (HCL.out _ hkA).mono ?_
            rintro e w104 ⟨rfl, hB5⟩
            have hkA := hkA.trans (hB5.mono hkA.size)
            refine hK.out _ _ (fun _ => hkA) (fun _ => ?_)
            clear hK K
            (try simp only [Act.put, List.setIfInBounds_toArray, List.set_cons_zero, List.set_cons_succ])
            refine wpTill_put 12 170 (oi := _) (v := ?_) rfl rfl (by kernel_rfl) (by kernel_rfl) (by kernel_rfl) (by kernel_rfl) (fun _ _ _ h => h) (by rfl) hkA ?_ ?_
            rotate_left
            · (intro w2' hSw; go_simp; (try with_reducible rfl))
            (try simp only [Act.put, List.setIfInBounds_toArray, List.set_cons_zero, List.set_cons_succ])
            refine wpTill_put 13 171 (oi := _) (v := ?_) rfl rfl (by kernel_rfl) (by kernel_rfl) (by kernel_rfl) (by kernel_rfl) (fun _ _ _ h => h) (by rfl) hkA ?_ ?_
            rotate_left
            · (intro w2' hSw; go_simp; (try with_reducible rfl))
            (try simp only [Act.put, List.setIfInBounds_toArray, List.set_cons_zero, List.set_cons_succ])
            refine wpTill_done (by kernel_rfl) ?_ _
            obtain ⟨wz, hwz⟩ : ∃ wz, w104 = wz := ⟨_, rfl⟩
            rw [hwz] at hkA ⊢
            clear hwz
            have HROW := Lib.hid (HA.out _ hkA)
            go_wp2_with fail
            go_roundw
            case rel => exact ⟨h + 1, j, g, by go_num, rfl, by omega, by omega, by omega, by omega, Lib.hid ⟨HROW.out, by rw [← HJ.out.2]; exact (bsF_up _ hlt HH.out (by rw [← HCV.out, decide_eq_false (show ¬ cv < 0 by omega)]; rfl)).symm⟩⟩
            case measure => simp [intOf]; omega
      · have e := HJ.out.2
        rw [bsF_end _ hlt] at e
        subst e
        clear HX HLH HPP hXlo rp hwp hph hpb hwd hwb hdn hbn hme hsum hsum2 hwn
        have HROW := Lib.hid HJ.out.1
        obtain ⟨c1, hc1⟩ : ∃ c, decide (i < m ∧ m < ee) = c := ⟨_, rfl⟩
        have HQc1 := Lib.hid hc1
        clear hc1
        go_upto_region 39 with fail
        obtain ⟨w1, hwc1⟩ : ∃ wx, wr = wx := ⟨_, rfl⟩
        rw [hwc1] at HROW ⊢
        clear hwc1
        go_cut [185] (fun s wx => s = .bool c1 ∧ wx = w1)
        case first => as_aux_lemma =>
          by_cases q1 : i < m
          · by_cases q2 : m < ee
            · have q1z : (i : Int) < (m : Int) := by omega
              have q2z : (m : Int) < (ee : Int) := by omega
              have HT : Hid (c1 = true) := by show _ = _; rw [← HQc1.out]; exact decide_eq_true ⟨q1, q2⟩
              clear q1 q2
              go_wp2_with fail
              go_meet
              exact ⟨by rw [HT.out], rfl⟩
            · have q1z : (i : Int) < (m : Int) := by omega
              have q2z : ¬ (m : Int) < (ee : Int) := by omega
              have HT : Hid (c1 = false) := by show _ = _; rw [← HQc1.out]; exact decide_eq_false (fun h => q2 h.2)
              clear q1 q2
              go_wp2_with fail
              go_meet
              exact ⟨by rw [HT.out], rfl⟩
          · have q1z : ¬ (i : Int) < (m : Int) := by omega
            have HT : Hid (c1 = false) := by show _ = _; rw [← HQc1.out]; exact decide_eq_false (fun h => q1 h.1)
            clear q1
            go_wp2_with fail
            go_meet
            exact ⟨by rw [HT.out], rfl⟩
        case rest =>
        obtain ⟨rfl, hwc⟩ := hcut
        have hwc := hwc.symm
        subst hwc
        obtain ⟨l1, hl1⟩ : ∃ x, symRot default m i ee l = x := ⟨_, rfl⟩
        have HL1 := Lib.hid hl1
        have HLL1 : Hid (l1.length = n) := by show _ = _; rw [← hl1, symRot_length]; exact HL.out
        clear hl1
        go_upto_if 185 with fail
        go_cut [] (fun wx => Hid (RowAt enc w0 blk off wx l1))
        case first =>
          cases hcc : c1 with
          | true => as_aux_lemma =>
            have hd := of_decide_eq_true (HQc1.out.trans hcc)
            have hx := HRT.out _ i ee HROW.out hd.1 hd.2 (by omega)
            have HX := Lib.hid hx
            have HD := Lib.hid hd
            clear hd hx
            subst hcc
            go_wp2_with (go_at_call 43; refine HX.out.mono ?_; rintro e w3 ⟨rfl, hR3⟩; have HR3 := Lib.hid hR3; clear hR3)
            go_meet
            exact Lib.hid (by rw [← HL1.out, symRot, if_pos HD.out]; exact HR3.out)
          | false => as_aux_lemma =>
            have hd := of_decide_eq_false (HQc1.out.trans hcc)
            have HD := Lib.hid hd
            clear hd
            subst hcc
            go_wp2_with fail
            go_meet
            exact Lib.hid (by rw [← HL1.out, symRot, if_neg HD.out]; exact HROW.out)
        case rest =>
        clear HROW
        have HROW := hcut
        clear hcut
        obtain ⟨c2, hc2⟩ : ∃ c, decide (a < i ∧ i < mi) = c := ⟨_, rfl⟩
        have HQc2 := Lib.hid hc2
        clear hc2
        go_upto_region 41 with fail
        obtain ⟨w2, hwc2⟩ : ∃ wx, wc = wx := ⟨_, rfl⟩
        rw [hwc2] at HROW ⊢
        clear hwc2
        go_cut [199] (fun s wx => s = .bool c2 ∧ wx = w2)
        case first => as_aux_lemma =>
          by_cases q1 : a < i
          · by_cases q2 : i < mi
            · have q1z : (a : Int) < (i : Int) := by omega
              have q2z : (i : Int) < (mi : Int) := by omega
              have HT : Hid (c2 = true) := by show _ = _; rw [← HQc2.out]; exact decide_eq_true ⟨q1, q2⟩
              clear q1 q2
              go_wp2_with fail
              go_meet
              exact ⟨by rw [HT.out], rfl⟩
            · have q1z : (a : Int) < (i : Int) := by omega
              have q2z : ¬ (i : Int) < (mi : Int) := by omega
              have HT : Hid (c2 = false) := by show _ = _; rw [← HQc2.out]; exact decide_eq_false (fun h => q2 h.2)
              clear q1 q2
              go_wp2_with fail
              go_meet
              exact ⟨by rw [HT.out], rfl⟩
          · have q1z : ¬ (a : Int) < (i : Int) := by omega
            have HT : Hid (c2 = false) := by show _ = _; rw [← HQc2.out]; exact decide_eq_false (fun h => q1 h.1)
            clear q1
            go_wp2_with fail
            go_meet
            exact ⟨by rw [HT.out], rfl⟩
        case rest =>
        obtain ⟨rfl, hwc⟩ := hcut
        have hwc := hwc.symm
        subst hwc
        obtain ⟨l2, hl2⟩ : ∃ x, (if a < i ∧ i < mi then symM default (fun x y => decide (cf x y < 0)) f a i mi l1 else l1) = x := ⟨_, rfl⟩
        have HL2 := Lib.hid hl2
        have HLL2 : Hid (l2.length = n) := by
          show _ = _
          rw [← hl2]
          split
          · rw [symM_length]; exact HLL1.out
          · exact HLL1.out
        clear hl2
        go_upto_if 199 with fail
        go_cut [] (fun wx => Hid (RowAt enc w0 blk off wx l2))
        case first =>
          cases hcc : c2 with
          | true => as_aux_lemma =>
            have hd := of_decide_eq_true (HQc2.out.trans hcc)
            have hx := HRC.out _ a i mi l1 HLL1.out HROW.out hd.1 hd.2 (by omega) (by omega)
            have HX := Lib.hid hx
            have HD := Lib.hid hd
            clear hd hx
            subst hcc
            go_wp2_with (go_at_call 40; refine HX.out.mono ?_; rintro e w3 ⟨rfl, hR3⟩; have HR3 := Lib.hid hR3; clear hR3)
            go_meet
            exact Lib.hid (by rw [← HL2.out, if_pos HD.out]; exact HR3.out)
          | false => as_aux_lemma =>
            have hd := of_decide_eq_false (HQc2.out.trans hcc)
            have HD := Lib.hid hd
            clear hd
            subst hcc
            go_wp2_with fail
            go_meet
            exact Lib.hid (by rw [← HL2.out, if_neg HD.out]; exact HROW.out)
        case rest =>
        clear HROW
        have HROW := hcut
        clear hcut
        obtain ⟨c3, hc3⟩ : ∃ c, decide (mi < ee ∧ ee < b) = c := ⟨_, rfl⟩
        have HQc3 := Lib.hid hc3
        clear hc3
        go_upto_region 43 with fail
        obtain ⟨w4, hwc3⟩ : ∃ wx, wc = wx := ⟨_, rfl⟩
        rw [hwc3] at HROW ⊢
        clear hwc3
        go_cut [213] (fun s wx => s = .bool c3 ∧ wx = w4)
        case first => as_aux_lemma =>
          by_cases q1 : mi < ee
          · by_cases q2 : ee < b
            · have q1z : (mi : Int) < (ee : Int) := by omega
              have q2z : (ee : Int) < (b : Int) := by omega
              have HT : Hid (c3 = true) := by show _ = _; rw [← HQc3.out]; exact decide_eq_true ⟨q1, q2⟩
              clear q1 q2
              go_wp2_with fail
              go_meet
              exact ⟨by rw [HT.out], rfl⟩
            · have q1z : (mi : Int) < (ee : Int) := by omega
              have q2z : ¬ (ee : Int) < (b : Int) := by omega
              have HT : Hid (c3 = false) := by show _ = _; rw [← HQc3.out]; exact decide_eq_false (fun h => q2 h.2)
              clear q1 q2
              go_wp2_with fail
              go_meet
              exact ⟨by rw [HT.out], rfl⟩
          · have q1z : ¬ (mi : Int) < (ee : Int) := by omega
            have HT : Hid (c3 = false) := by show _ = _; rw [← HQc3.out]; exact decide_eq_false (fun h => q1 h.1)
            clear q1
            go_wp2_with fail
            go_meet
            exact ⟨by rw [HT.out], rfl⟩
        case rest =>
        obtain ⟨rfl, hwc⟩ := hcut
        have hwc := hwc.symm
        subst hwc
        cases hcc : c3 with
        | true => as_aux_lemma =>
          have hd := of_decide_eq_true (HQc3.out.trans hcc)
          have hx := HRC.out _ mi ee b l2 HLL2.out HROW.out hd.1 hd.2 (by omega) (by omega)
          have HX := Lib.hid hx
          have HD := Lib.hid hd
          clear hd hx
          subst hcc
          go_wp2_with (go_at_call 40; refine HX.out.mono ?_; rintro e w3 ⟨rfl, hR3⟩; have HR3 := Lib.hid hR3; clear hR3)
          go_end0
          refine ⟨rfl, ?_⟩
          have hf := HFIN.out
          simp only [HL1.out] at hf
          rw [HL2.out, if_pos HD.out] at hf
          rw [← hf]
          exact HR3.out
        | false => as_aux_lemma =>
          have hd := of_decide_eq_false (HQc3.out.trans hcc)
          have HD := Lib.hid hd
          clear hd
          subst hcc
          go_wp2_with fail
          go_end0
          refine ⟨rfl, ?_⟩
          have hf := HFIN.out
          simp only [HL1.out] at hf
          rw [HL2.out, if_neg HD.out] at hf
          rw [← hf]
          exact HROW.out
end Go.Proofs.Ytolpgblegbahgaa
