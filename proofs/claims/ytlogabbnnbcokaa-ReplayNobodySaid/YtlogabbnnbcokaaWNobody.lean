/- scantlinglaw51.ReplayNobody says yes of every input. Condition: the numbers fit into Go's int, and no slice is longer than the reach. -/
import Derived.Test.YtlogabbnnbcokaaWU1
import Derived.Test.YtlogabbnnbcokaaWLives51
namespace Go.Proofs.Ytlogabbnnbcokaa
open Go.RowKit
attribute [local go_sem] Oper.semAt_some

/-- Two integers, one behind the other, in a block of the call's own. -/
theorem two_ints {w : World} {S : Nat → Prop} {G : Nat} {n k : Int} {t : TypeId} (hblk : w.heap[G]? = some (.cells #[.int .i64 n, .int .i64 k] t (0, 0))) (hG : S G) : IsInts w S (.slice (some ⟨G, 0, none⟩) 2 2) [n, k] := by
  refine ⟨some ⟨G, 0, none⟩, 2, rfl, by simp, fun _ => ⟨G, 0, rfl, hG, fun i hi => ?_⟩⟩
  have h2 : i = 0 ∨ i = 1 := by simp at hi; omega
  rcases h2 with rfl | rfl
  · exact ⟨[.int .i64 n], rfl, rfl, fun j u hu => by
      match j, hu with
      | 0, hu => simp at hu; subst hu; simp [World.cell?, hblk]⟩
  · exact ⟨[.int .i64 k], rfl, rfl, fun j u hu => by
      match j, hu with
      | 0, hu => simp at hu; subst hu; simp [World.cell?, hblk]⟩
set_option maxRecDepth 100000 in
set_option maxHeartbeats 6400000 in
theorem replayNobody_walk (w : World) (v : Value) (l : List Wr) (n k : Int) (hl : IsWrs w (Lt w.heap.size) v l) (hnl : l.length ≤ 17592186044416) (hlw : ∀ k, k < l.length → (nth wr0 l k).bytes.length ≤ 140737488355328) :
    Calls Try.prog 4 #[v, .int .i64 n, .int .i64 k] w fun e w' => e = .returned (.bool true) ∧ Below w.heap.size w w' := by
  have HFW := Lib.hid (few51_any w (Lt w.heap.size) v l hl hnl hlw)
  by_cases h2 : fewW l = true
  · have HF := Lib.hid h2
    rw [h2] at HFW
    clear h2
    have hl60 : l.length ≤ 60 := by have := HF.out; simp only [fewW, decide_eq_true_eq] at this; exact this.1
    obtain ⟨i0, hi, hz0, hz1, hz2⟩ := info_parts info_u8
    have hz : (List.replicate 2048 (0 : UInt8)).length = 2048 := by simp
    have HZL := Lib.hid hz
    generalize hzz : List.replicate 2048 (0 : UInt8) = z at *
    have HZ := Lib.hid hzz
    have htk : z.take (blocksN z.length * 256) = z := List.take_of_length_le (by rw [HZL.out]; unfold blocksN; omega)
    have HTK := Lib.hid htk
    have hll : l.length ≤ 1099511627776 := by omega
    have hwl : ∀ w', Below w.heap.size w w' → IsWrs w' (Lt w'.heap.size) v l := fun w' hB' => hl.keep rwr_stable (fun b hb => Nat.lt_of_lt_of_le hb hB'.size) (keep_below hB' (fun _ h => h))
    have HAN := Lib.hid (fun w' (hB : Below w.heap.size w w') => apply_nil w' (Lt w'.heap.size) v l n (fun _ h => h) (hwl w' hB) hll)
    have HTN := Lib.hid (fun w' (hB : Below w.heap.size w w') => torn_nil w' (Lt w'.heap.size) v l n k (fun _ h => h) (hwl w' hB) hll)
    have HSN := Lib.hid (fun w' (hB : Below w.heap.size w w') vp (hp : IsInts w' (Lt w'.heap.size) vp [n, k]) => some_nil w' (Lt w'.heap.size) v vp l [n, k] (fun _ h => h) (hwl w' hB) hll hp (by simp))
    have hsm : ∀ w', Below w.heap.size w w' → Calls Try.prog 15 #[.pointer none, v, .slice (some ⟨w'.heap.size, 0, none⟩) 2 2] (w'.alloc (.cells #[.int .i64 n, .int .i64 k] 3)) fun e w'' => e = .returned (.pointer none) ∧ Below w'.heap.size w' w'' := fun w' hB => by
      have hs := two_ints (w := w'.alloc (.cells #[.int .i64 n, .int .i64 k] 3)) (n := n) (k := k) (t := 3) (S := Lt (w'.alloc (.cells #[.int .i64 n, .int .i64 k] 3)).heap.size) (heap_alloc_new w' (.cells #[.int .i64 n, .int .i64 k] 3)) (show w'.heap.size < (w'.alloc (.cells #[.int .i64 n, .int .i64 k] 3)).heap.size by simp)
      have hBa : Below w'.heap.size w' (w'.alloc (.cells #[.int .i64 n, .int .i64 k] 3)) := (Below.refl _ _).alloc (Nat.le_refl _) _
      exact (HSN.out _ (hB.trans (hBa.mono hB.size)) _ hs).mono fun e w'' ⟨he, hB2⟩ => ⟨he, hBa.trans (hB2.mono (by simp))⟩
    have HSM := Lib.hid hsm
    clear hsm
    have HOF := Lib.hid (fun w' vb (hb : IsBytes w' (Lt w'.heap.size) vb z) => imageOf_any w' (Lt w'.heap.size) vb z (fun _ h => h) hb (by rw [HZL.out]; omega))
    rw [htk] at HOF
    have hto := fun w' kk (hB : Below w.heap.size w w') a (h : IsImg w' (Lt w'.heap.size) a z) => torn_any w' (Lt w'.heap.size) (Lt w'.heap.size) a z v l n kk (fun _ h => h) h (by rw [HZL.out]; omega) (fun _ h => h) (hwl w' hB) hll hlw
    have ht0 := fun w' (hB : Below w.heap.size w w') a h => hto w' 0 hB a h
    have ht1 := fun w' (hB : Below w.heap.size w w') a h => hto w' 256 hB a h
    rw [tornF_none] at ht0
    rw [tornF_all] at ht1
    have HT0 := Lib.hid ht0
    have HT1 := Lib.hid ht1
    have HAP := Lib.hid (fun w' (hB : Below w.heap.size w w') a (h : IsImg w' (Lt w'.heap.size) a z) => apply_any w' (Lt w'.heap.size) (Lt w'.heap.size) a z v l n (fun _ h => h) h (by rw [HZL.out]; omega) (fun _ h => h) (hwl w' hB) hll hlw)
    have HU1 := Lib.hid (fun w' (hB : Below w.heap.size w w') a (h : IsImg w' (Lt w'.heap.size) a z) => u1_any w' (Lt w'.heap.size) (Lt w'.heap.size) a z v l n (fun _ h => h) h (by rw [HZL.out]; omega) (fun _ h => h) (hwl w' hB) hll hlw)
    have hx : (doF l z (List.range (withinN (u1N n l.length) l.length).toNat)).length = 2048 := by rw [doF_len, HZL.out]
    have hy : (doF l z (List.range (withinN n l.length).toNat)).length = 2048 := by rw [doF_len, HZL.out]
    have HX := Lib.hid hx
    have HY := Lib.hid hy
    have HAE := Lib.hid (fun w' a bs (h : IsImg w' (Lt w'.heap.size) a bs) (hb : bs.length = 2048) => apply_any w' (Lt w'.heap.size) (Lt w'.heap.size) a bs (.slice none 0 0) [] 0 (fun _ h => h) h (by omega) (fun _ h => h) IsSl.nil_ (by simp) (fun k hk => by simp at hk))
    have HBY := Lib.hid (fun (w' : World) (base a : Nat) (f : List UInt8) (h : OwnImg w' base a f) (hn : f.length = 2048) => (imageBytes_any w' (Lt w'.heap.size) a f (fun _ h => h) (h.is (fun _ _ h => h)) (by omega)).mono (fun e w1 ⟨A, c, he, ho, hB⟩ => (by rw [hn] at he ho; exact ⟨A, c, he, ho, hB⟩ : ∃ A c, e = Ending.returned (.slice A 2048 c) ∧ w1.ownsRow w'.heap.size 5 1 (.slice A 2048 c) 2048 (flats encB f) ∧ Below w'.heap.size w' w1)))
    clear hz hzz htk hwl hto ht0 ht1 hx hy hlw hl hll hnl hl60 HF
    generalize doF l z (List.range (withinN (u1N n l.length) l.length).toNat) = X at *
    generalize doF l z (List.range (withinN n l.length).toNat) = Y at *
    have hk0 := Below.refl w.heap.size w
    go_enter Try.func4, Try.ntmps4
    go_wp2_with (first
      | (go_at_call 9; have _ := hk9; refine (HAE.out _ a9 X (hI9.is (fun _ _ h => h)) HX.out).mono ?_; rintro e wA ⟨aA, rfl, hIA, hBA⟩; have hkA := hk9.trans (hBA.mono hk9.size))
      | (go_at_call 17; have _ := hk8; refine (HU1.out _ hk8 a5 ((hI5.below hI58 (Nat.le_refl _)).is (fun _ _ h => h))).mono ?_; rintro e w9 ⟨a9, rfl, hI9, hB9⟩; have hk9 := hk8.trans (hB9.mono hk8.size))
      | (go_at_call 9; have _ := hk7; refine (HAP.out _ hk7 a5 ((hI5.below hI57 (Nat.le_refl _)).is (fun _ _ h => h))).mono ?_; rintro e w8 ⟨a8, rfl, hI8, hB8⟩; have hk8 := hk7.trans (hB8.mono hk7.size); have hI58 := hI57.trans (hB8.mono hI57.size))
      | (go_at_call 13; have _ := hk6; refine (HT0.out _ hk6 a5 ((hI5.below hB6 (Nat.le_refl _)).is (fun _ _ h => h))).mono ?_; rintro e w7 ⟨a7, rfl, hI7, hB7⟩; have hk7 := hk6.trans (hB7.mono hk6.size); have hI57 := hB6.trans (hB7.mono hB6.size))
      | (go_at_call 13; have _ := hk5; refine (HT1.out _ hk5 a5 (hI5.is (fun _ _ h => h))).mono ?_; rintro e w6 ⟨a6, rfl, hI6, hB6⟩; have hk6 := hk5.trans (hB6.mono hk5.size))
      | (go_at_call 7; have _ := hk4; refine (HOF.out _ _ hb4).mono ?_; rintro e w5 ⟨a5, rfl, hI5, hB5⟩; have hk5 := hk4.trans (hB5.mono hk4.size))
      | (at_make; have _ := hk3; refine wpList_make_full _ rfl _ _ 22 rfl w3.heap.size 5 i0 (.int .u8 0) 1 Try.underlying22 hi hz0 hz1 _ _ _ _ 2048 rfl rfl rfl rfl (by rw [hz2]; omega) (by unfold maxLen; omega) (Nat.le_refl _) ?_; intro w4 hown hg; rw [madeBytes, HZ.out] at hown; have hk4 := hk3.grown hg hk3.size (fun k hk => by cases hk); have hb4 := (IsSl.own (d := (0 : UInt8)) encB_len hown (by omega)).keep (flat_stable _) (fun b hb => hb.2) Keep.refl; clear hown hg)
      | (go_at_call 5; refine HFW.out.mono ?_; rintro e w' ⟨rfl, rfl⟩)
      | (go_at_call 9; refine (HAN.out _ hk0).mono ?_; rintro e w1 ⟨rfl, hB1⟩; have hk1 := hk0.trans (hB1.mono hk0.size))
      | (go_at_call 13; refine (HTN.out _ hk1).mono ?_; rintro e w2 ⟨rfl, hB2⟩; have hk2 := hk1.trans (hB2.mono hk1.size))
      | (go_at_call 15; refine (HSM.out w2 hk2).mono ?_; rintro e w3 ⟨rfl, hB3⟩; have hk3 := hk2.trans (hB3.mono hk2.size)))
    rw [doF_none] at hIA
    have hB8A := (hB9.trans (hBA.mono hB9.size))
    have hB7A := (hB8.trans (hB8A.mono hB8.size))
    have HI7 := Lib.hid ((hI7.below hB7A (Nat.le_refl _)).low (Nat.zero_le _))
    have HI8 := Lib.hid ((hI8.below hB8A (Nat.le_refl _)).low (Nat.zero_le _))
    have HI6 := Lib.hid ((hI6.below (hB7.trans (hB7A.mono hB7.size)) (Nat.le_refl _)).low (Nat.zero_le _))
    have HIA := Lib.hid (hIA.low (Nat.zero_le _))
    have HKA := Lib.hid hkA
    clear hI5 hI6 hI7 hI8 hI9 hIA hB1 hB2 hB3 hB5 hB6 hB7 hB8 hB9 hBA hB7A hB8A hI57 hI58 hk0 hk1 hk2 hk3 hk4 hk5 hk6 hk7 hk8 hk9 hkA hb4
    refine wp_region_till (T := fun _ => false) (S := fun w' => Below wA.heap.size wA w') (by kernel_rfl) (Below.refl wA.heap.size wA).drew (fun hHeld => ?_)
    have hkr : Below wA.heap.size wA wA.drew := (Below.refl wA.heap.size wA).drew
    refine wpTill_put 0 54 (oi := _) (v := ?_) rfl rfl (by kernel_rfl) (by kernel_rfl) (by kernel_rfl) (by kernel_rfl) (fun _ _ _ h => h) (by rfl) hHeld ?_ ?_
    rotate_left
    · (intro w hSw; go_simp; (try with_reducible rfl))
    (try simp only [Act.put, List.setIfInBounds_toArray, List.set_cons_zero, List.set_cons_succ])
    refine wpTill_put 3 57 (oi := _) (v := ?_) rfl rfl (by kernel_rfl) (by kernel_rfl) (by kernel_rfl) (by kernel_rfl) (fun _ _ _ h => h) (by rfl) hHeld ?_ ?_
    rotate_left
    · (intro w hSw; go_simp; (try with_reducible rfl))
    (try simp only [Act.put, List.setIfInBounds_toArray, List.set_cons_zero, List.set_cons_succ])
    refine wpTill_one 1 (o := _) (by kernel_rfl) rfl (fun K hK => ?_)
    go_simp
    refine (HBY.out _ 0 a7 Y (HI7.out.below hkr (Nat.le_refl _)) HY.out).mono ?_
    rintro e wb1 ⟨A1, c1, rfl, ho1, hB1⟩
    have hkr := hkr.trans (hB1.mono hkr.size)
    have HC1 := Lib.hid (ownRow_conv ho1)
    refine hK.out _ _ (fun _ => (Below.refl wA.heap.size wA).drew.trans (hB1.mono (Below.refl wA.heap.size wA).drew.size)) (fun _ => ?_)
    clear hK K hHeld
    (try simp only [Act.put, List.setIfInBounds_toArray, List.set_cons_zero, List.set_cons_succ])
    refine wpTill_more (S' := fun w' => Below wb1.heap.size wb1 w') (fun _ h => ((Below.refl wA.heap.size wA).drew.trans (hB1.mono (Below.refl wA.heap.size wA).drew.size)).trans (h.mono (hkr.size))) _ _ _ _ ?_
    have hHeld : (fun w' => Below wb1.heap.size wb1 w') wb1 := Below.refl _ _
    refine wpTill_put 2 56 (oi := _) (v := ?_) rfl rfl (by kernel_rfl) (by kernel_rfl) (by kernel_rfl) (by kernel_rfl) (fun _ _ _ h => h) (by rfl) hHeld ?_ ?_
    rotate_left
    · (intro w hSw; have hcv := HC1.out _ hSw; go_simp; (try with_reducible rfl))
    (try simp only [Act.put, List.setIfInBounds_toArray, List.set_cons_zero, List.set_cons_succ])
    refine wpTill_one 4 (o := _) (by kernel_rfl) rfl (fun K hK => ?_)
    go_simp
    refine (HBY.out _ 0 a8 Y (HI8.out.below hkr (Nat.le_refl _)) HY.out).mono ?_
    rintro e wb2 ⟨A2, c2, rfl, ho2, hB2⟩
    have hkr := hkr.trans (hB2.mono hkr.size)
    have HC2 := Lib.hid (ownRow_conv ho2)
    refine hK.out _ _ (fun _ => hB2) (fun _ => ?_)
    clear hK K hHeld
    (try simp only [Act.put, List.setIfInBounds_toArray, List.set_cons_zero, List.set_cons_succ])
    refine wpTill_more (S' := fun w' => Below wb2.heap.size wb2 w') (fun _ h => hB2.trans (h.mono hB2.size)) _ _ _ _ ?_
    have hHeld : (fun w' => Below wb2.heap.size wb2 w') wb2 := Below.refl _ _
    refine wpTill_put 5 59 (oi := _) (v := ?_) rfl rfl (by kernel_rfl) (by kernel_rfl) (by kernel_rfl) (by kernel_rfl) (fun _ _ _ h => h) (by rfl) hHeld ?_ ?_
    rotate_left
    · (intro w hSw; have hcv := HC2.out _ hSw; go_simp; (try with_reducible rfl))
    (try simp only [Act.put, List.setIfInBounds_toArray, List.set_cons_zero, List.set_cons_succ])
    refine wpTill_put 6 60 (oi := _) (v := ?_) rfl rfl (by kernel_rfl) (by kernel_rfl) (by kernel_rfl) (by kernel_rfl) (fun _ _ _ h => h) (by rfl) hHeld ?_ ?_
    rotate_left
    · (intro w hSw; go_simp; (try with_reducible rfl))
    (try simp only [Act.put, List.setIfInBounds_toArray, List.set_cons_zero, List.set_cons_succ])
    refine wpTill_put 7 61 (oi := _) (v := ?_) rfl rfl (by kernel_rfl) (by kernel_rfl) (by kernel_rfl) (by kernel_rfl) (fun _ _ _ h => h) (by rfl) hHeld ?_ ?_
    rotate_left
    · (intro w hSw; go_simp; (try with_reducible rfl))
    (try simp only [Act.put, List.setIfInBounds_toArray, List.set_cons_zero, List.set_cons_succ])
    refine wpTill_put 8 62 (oi := _) (v := ?_) rfl rfl (by kernel_rfl) (by kernel_rfl) (by kernel_rfl) (by kernel_rfl) (fun _ _ _ h => h) (by rfl) hHeld ?_ ?_
    rotate_left
    · (intro w hSw; go_simp; (try with_reducible rfl))
    (try simp only [Act.put, List.setIfInBounds_toArray, List.set_cons_zero, List.set_cons_succ])
    refine wpTill_put 11 65 (oi := _) (v := ?_) rfl rfl (by kernel_rfl) (by kernel_rfl) (by kernel_rfl) (by kernel_rfl) (fun _ _ _ h => h) (by rfl) hHeld ?_ ?_
    rotate_left
    · (intro w hSw; go_simp; (try with_reducible rfl))
    (try simp only [Act.put, List.setIfInBounds_toArray, List.set_cons_zero, List.set_cons_succ])
    refine wpTill_one 9 (o := _) (by kernel_rfl) rfl (fun K hK => ?_)
    go_simp
    refine (HBY.out _ 0 a6 X (HI6.out.below hkr (Nat.le_refl _)) HX.out).mono ?_
    rintro e wb3 ⟨A3, c3, rfl, ho3, hB3⟩
    have hkr := hkr.trans (hB3.mono hkr.size)
    have HC3 := Lib.hid (ownRow_conv ho3)
    refine hK.out _ _ (fun _ => hB3) (fun _ => ?_)
    clear hK K hHeld
    (try simp only [Act.put, List.setIfInBounds_toArray, List.set_cons_zero, List.set_cons_succ])
    refine wpTill_more (S' := fun w' => Below wb3.heap.size wb3 w') (fun _ h => hB3.trans (h.mono hB3.size)) _ _ _ _ ?_
    have hHeld : (fun w' => Below wb3.heap.size wb3 w') wb3 := Below.refl _ _
    refine wpTill_put 10 64 (oi := _) (v := ?_) rfl rfl (by kernel_rfl) (by kernel_rfl) (by kernel_rfl) (by kernel_rfl) (fun _ _ _ h => h) (by rfl) hHeld ?_ ?_
    rotate_left
    · (intro w hSw; have hcv := HC3.out _ hSw; go_simp; (try with_reducible rfl))
    (try simp only [Act.put, List.setIfInBounds_toArray, List.set_cons_zero, List.set_cons_succ])
    refine wpTill_one 12 (o := _) (by kernel_rfl) rfl (fun K hK => ?_)
    go_simp
    refine (HBY.out _ 0 aA X (HIA.out.below hkr (Nat.le_refl _)) HX.out).mono ?_
    rintro e wb4 ⟨A4, c4, rfl, ho4, hB4⟩
    have hkr := hkr.trans (hB4.mono hkr.size)
    have HC4 := Lib.hid (ownRow_conv ho4)
    refine hK.out _ _ (fun _ => hB4) (fun _ => ?_)
    clear hK K hHeld
    (try simp only [Act.put, List.setIfInBounds_toArray, List.set_cons_zero, List.set_cons_succ])
    refine wpTill_more (S' := fun w' => Below wb4.heap.size wb4 w') (fun _ h => hB4.trans (h.mono hB4.size)) _ _ _ _ ?_
    have hHeld : (fun w' => Below wb4.heap.size wb4 w') wb4 := Below.refl _ _
    refine wpTill_put 13 67 (oi := _) (v := ?_) rfl rfl (by kernel_rfl) (by kernel_rfl) (by kernel_rfl) (by kernel_rfl) (fun _ _ _ h => h) (by rfl) hHeld ?_ ?_
    rotate_left
    · (intro w hSw; have hcv := HC4.out _ hSw; go_simp; (try with_reducible rfl))
    (try simp only [Act.put, List.setIfInBounds_toArray, List.set_cons_zero, List.set_cons_succ])
    refine wpTill_put 14 68 (oi := _) (v := ?_) rfl rfl (by kernel_rfl) (by kernel_rfl) (by kernel_rfl) (by kernel_rfl) (fun _ _ _ h => h) (by rfl) hHeld ?_ ?_
    rotate_left
    · (intro w hSw; go_simp; (try with_reducible rfl))
    (try simp only [Act.put, List.setIfInBounds_toArray, List.set_cons_zero, List.set_cons_succ])
    refine wpTill_put 15 69 (oi := _) (v := ?_) rfl rfl (by kernel_rfl) (by kernel_rfl) (by kernel_rfl) (by kernel_rfl) (fun _ _ _ h => h) (by rfl) hHeld ?_ ?_
    rotate_left
    · (intro w hSw; go_simp; (try with_reducible rfl))
    (try simp only [Act.put, List.setIfInBounds_toArray, List.set_cons_zero, List.set_cons_succ])
    refine wpTill_put 16 70 (oi := _) (v := ?_) rfl rfl (by kernel_rfl) (by kernel_rfl) (by kernel_rfl) (by kernel_rfl) (fun _ _ _ h => h) (by rfl) hHeld ?_ ?_
    rotate_left
    · (intro w hSw; go_simp; (try with_reducible rfl))
    (try simp only [Act.put, List.setIfInBounds_toArray, List.set_cons_zero, List.set_cons_succ])
    refine wpTill_one 17 (o := _) (by kernel_rfl) rfl (fun K hK => ?_)
    go_simp
    refine (lives51 _).mono ?_
    rintro e wl ⟨rfl, hBl⟩
    have hkr := hkr.trans (hBl.mono hkr.size)
    refine hK.out _ _ (fun _ => hBl) (fun _ => ?_)
    clear hK K hHeld
    (try simp only [Act.put, List.setIfInBounds_toArray, List.set_cons_zero, List.set_cons_succ])
    refine wpTill_more (S' := fun w' => Below wl.heap.size wl w') (fun _ h => hBl.trans (h.mono hBl.size)) _ _ _ _ ?_
    have hHeld : (fun w' => Below wl.heap.size wl w') wl := Below.refl _ _
    refine wpTill_put 18 72 (oi := _) (v := ?_) rfl rfl (by kernel_rfl) (by kernel_rfl) (by kernel_rfl) (by kernel_rfl) (fun _ _ _ h => h) (by rfl) hHeld ?_ ?_
    rotate_left
    · (intro w hSw; go_simp; (try with_reducible rfl))
    (try simp only [Act.put, List.setIfInBounds_toArray, List.set_cons_zero, List.set_cons_succ])
    refine wpTill_put 19 6 (oi := _) (v := ?_) rfl rfl (by kernel_rfl) (by kernel_rfl) (by kernel_rfl) (by kernel_rfl) (fun _ _ _ h => h) (by rfl) hHeld ?_ ?_
    rotate_left
    · (intro w hSw; go_simp; (try with_reducible rfl))
    (try simp only [Act.put, List.setIfInBounds_toArray, List.set_cons_zero, List.set_cons_succ])
    refine wpTill_done (by kernel_rfl) ?_ _
    go_wp2_with fail
    go_ret
    exact ⟨rfl, HKA.out.trans (hkr.mono HKA.out.size)⟩
  · have h2' : fewW l = false := by simpa using h2
    rw [h2'] at HFW
    clear h2 h2' hlw
    go_enter Try.func4, Try.ntmps4
    go_wp2_with (first
      | (go_at_call 5; refine HFW.out.mono ?_; rintro e w' ⟨rfl, rfl⟩)
      | (go_at_call 6; refine (lives51 _).mono ?_; rintro e w2 ⟨rfl, hB2⟩))
    go_ret
    exact ⟨rfl, hB2⟩
end Go.Proofs.Ytlogabbnnbcokaa
