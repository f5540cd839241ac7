/- scantlinglaw51.ReplayDoes says yes of every input. Condition: the numbers fit into Go's int, and no slice is longer than the reach. -/
import Derived.Test.YtlogabbnnbcokaaWOwnW
namespace Go.Proofs.Ytlogabbnnbcokaa
open Go.RowKit
attribute [local go_sem] Oper.semAt_some

set_option maxRecDepth 100000 in
set_option maxHeartbeats 6400000 in
theorem replayDoes_walk (w : World) (vb vl vp : Value) (b : List UInt8) (l : List Wr) (n k : Int) (ps : List Int) (hb : IsBytes w (Lt w.heap.size) vb b) (hbn : b.length ≤ 140737488355328) (hl : IsWrs w (Lt w.heap.size) vl l) (hnl : l.length ≤ 17592186044416) (hlw : ∀ k, k < l.length → (nth wr0 l k).bytes.length ≤ 140737488355328) (hp : IsInts w (Lt w.heap.size) vp ps) (hnp : ps.length ≤ 17592186044416) :
    Calls Try.prog 3 #[vb, vl, .int .i64 n, .int .i64 k, vp] w fun e w' => e = .returned (.bool true) ∧ Below w.heap.size w w' := by
  have HFW := Lib.hid (few51_any w (Lt w.heap.size) vl l hl hnl hlw)
  have hb0 := hb
  have hl0 := hl
  have hp0 := hp
  obtain ⟨Ab, cb, rfl, hcb, hrb⟩ := hb
  obtain ⟨A, c, rfl, hc, hr⟩ := hl
  obtain ⟨Ap, cp, rfl, hcp, hrp⟩ := hp
  obtain ⟨V, hV⟩ := wrs_cells hr
  have HV := Lib.hid (show WrsIs w (Lt w.heap.size) A l V from hV)
  have HL := Lib.hid hl0
  have HBB := Lib.hid hb0
  have HPP := Lib.hid hp0
  clear hV hr hrb hrp hl0 hb0 hp0
  by_cases h1 : b.length ≤ 12000
  · have h1' : ¬ (12000 : Int) < (b.length : Int) := by omega
    by_cases h2 : fewW l = true
    · by_cases h3 : ps.length ≤ 100
      · have h3' : ¬ (100 : Int) < (ps.length : Int) := by omega
        have HF := Lib.hid h2
        rw [h2] at HFW
        clear h2 hlw
        have hl60 : l.length ≤ 60 := by have := HF.out; simp only [fewW, decide_eq_true_eq] at this; exact this.1
        generalize hnn : l.length = nl at *
        have HN := Lib.hid hnn
        clear hnn
        generalize hbb : b.length = nb at *
        have HNB := Lib.hid hbb
        generalize hpp : ps.length = np at *
        have HNP := Lib.hid hpp
        clear hbb hpp
        go_enter Try.func3, Try.ntmps3
        go_wp2_with (go_at_call 5; refine HFW.out.mono ?_; rintro e w' ⟨rfl, rfl⟩)
        go_loopw [11, 12] (fun t i wr => ∃ q : Nat, i = .int .i64 q ∧ q ≤ nl ∧ wr.ownsRow w.heap.size 29 2 t q (flats (encWi l V) (List.range q)) ∧ Below w.heap.size w wr) (fun _ i _ => nl - (intOf i).toNat)
        case atStart => exact ⟨0, rfl, by omega, World.ownsRow_nil _ _ _ _, Below.refl _ _⟩
        case round =>
          obtain ⟨q, rfl, hq, hrow, hB⟩ := hrel
          have hz := hB.size
          obtain ⟨At, ct, rfl, hct⟩ := own_form0 hrow
          by_cases hlt : q < nl
          · obtain ⟨lb, lo, rfl, hSl, hat⟩ := HV.out.keep (keep_below hB (fun _ h => h)) (by rw [HN.out]; omega)
            obtain ⟨c0, c1, _, _⟩ := hat q (by rw [HN.out]; exact hlt)
            have HRS := Lib.hid (show List.range (q + 1) = List.range q ++ [q] from List.range_succ)
            clear hat
            have hslt : lb < wr.heap.size := Nat.lt_of_lt_of_le hSl hz
            have hown' := hrow
            go_wp2_with (at_builtin; go_loud (refine wpList_append_one (elWi l V) rfl _ _ rfl w.heap.size (.slice At q ct) q (List.range q) q rfl hrow rfl (by omega) hz ?_); intro A6 cap6 w6 hown hg)
            go_roundw
            case rel => exact ⟨q + 1, by go_num, by omega, by rw [HRS.out]; exact hown, hB.grown hg hz (fun i hi => (hrow.lt i hi).1)⟩
            case measure => simp [intOf]; omega
          · obtain rfl : q = nl := by omega
            have how : ∀ w', Below wr.heap.size wr w' → IsWrs w' (Lt w'.heap.size) (.slice At q ct) l := fun w' hB' => by
              have hsz := hB'.size
              by_cases h0 : 0 < l.length
              · obtain ⟨lb, lo, _, hSl, hat⟩ := HV.out.keep (keep_below hB (fun _ h => h)) h0
                have h1 : IsWrs wr (Lt wr.heap.size) (.slice At q ct) l := own_wrs hrow HN.out.symm hat (fun b hb => Nat.lt_of_lt_of_le hb hz) (fun g _ h => h)
                exact h1.keep rwr_stable (fun b hb => Nat.lt_of_lt_of_le hb hsz) (keep_below hB' (fun _ h => h))
              · refine ⟨At, ct, by rw [HN.out], by rw [HN.out]; exact hct, ?_⟩
                obtain rfl : l = [] := List.eq_nil_of_length_eq_zero (by omega)
                exact RowOf.nil_
            have HOW := Lib.hid how
            have hof := imageOf_any wr (Lt w.heap.size) (.slice Ab nb cb) b (fun b hb => Nat.lt_of_lt_of_le hb hz) (HBB.out.keep (flat_stable _) (fun _ h => h) (keep_below hB (fun _ h => h))) (by rw [HNB.out]; omega)
            rw [ofs_same] at hof
            have HOF := Lib.hid hof
            have HRO := Lib.hid (fun w2 (hB2 : Below w.heap.size w w2) => ref3Of_any w2 (Lt w.heap.size) (.slice Ab nb cb) b (fun b hb => Nat.lt_of_lt_of_le hb hB2.size) (HBB.out.keep (flat_stable _) (fun _ h => h) (keep_below hB2 (fun _ h => h))) (by rw [HNB.out]; omega))
            have HG := Lib.hid (good_chunk b)
            clear how hof hrow
            generalize chunk b (blocksN b.length) = B at *
            go_wp2_with (first
              | (go_at_call 7; refine HOF.out.mono ?_; rintro e w2 ⟨a2, rfl, hI2, hB2⟩; have hkw2 := hB.trans (hB2.mono hz))
              | (go_at_call 8; refine (HRO.out _ hkw2).mono ?_; rintro e w3 ⟨a3, rfl, hI3, hB3⟩))
            have hkw3 := hkw2.trans (hB3.mono hkw2.size)
            have hI2' := hI2.below hB3 (Nat.le_refl _)
            have hwr3 : Below wr.heap.size wr w3 := hB2.trans (hB3.mono hB2.size)
            have hfl := HG.out.flat
            have hg2 := HG.out.2
            have hlen : ∀ w', Below w3.heap.size w3 w' → Below w.heap.size w w' := fun w' hB' => hkw3.trans (hB'.mono hkw3.size)
            have hwl : ∀ w', Below w3.heap.size w3 w' → IsWrs w' (Lt w'.heap.size) (.slice A q c) l := fun w' hB' => HL.out.keep rwr_stable (fun b hb => Nat.lt_of_lt_of_le hb (hlen w' hB').size) (keep_below (hlen w' hB') (fun _ h => h))
            have hwp : ∀ w', Below w3.heap.size w3 w' → IsInts w' (Lt w'.heap.size) (.slice Ap np cp) ps := fun w' hB' => HPP.out.keep (flat_stable _) (fun b hb => Nat.lt_of_lt_of_le hb (hlen w' hB').size) (keep_below (hlen w' hB') (fun _ h => h))
            have hwo : ∀ w', Below w3.heap.size w3 w' → IsWrs w' (Lt w'.heap.size) (.slice At q ct) l := fun w' hB' => HOW.out w' (hwr3.trans (hB'.mono hwr3.size))
            have him : ∀ w', Below w3.heap.size w3 w' → IsImg w' (Lt w'.heap.size) a2 B.flatten := fun w' hB' => (OwnImg.below hI2' hB' (Nat.le_refl _)).is (fun _ _ h => h)
            have hrf : ∀ w', Below w3.heap.size w3 w' → IsRef w' (Lt w'.heap.size) a3 B := fun w' hB' => (OwnRef.below hI3 hB' (Nat.le_refl _)).is (fun _ _ h => h)
            have hll : l.length ≤ 1099511627776 := by rw [HN.out]; omega
            have hpl : ps.length ≤ 1099511627776 := by rw [HNP.out]; omega
            have hbl : ∀ k, k < l.length → (nth wr0 l k).bytes.length ≤ 140737488355328 := fun k hk => by have := fewW_bytes HF.out k hk; omega
            have hap := fun w' hB' => apply_any w' (Lt w'.heap.size) (Lt w'.heap.size) a2 B.flatten _ l n (fun _ h => h) (him w' hB') (by omega) (fun _ h => h) (hwl w' hB') hll hbl
            have hto := fun w' hB' => torn_any w' (Lt w'.heap.size) (Lt w'.heap.size) a2 B.flatten _ l n k (fun _ h => h) (him w' hB') (by omega) (fun _ h => h) (hwl w' hB') hll hbl
            have hso := fun w' hB' => some_any w' (Lt w'.heap.size) (Lt w'.heap.size) a2 B.flatten _ _ l ps (fun _ h => h) (him w' hB') (by omega) (fun _ h => h) (hwl w' hB') hll hbl (hwp w' hB') hpl
            have hra := fun w' hB' => rapply_any w' (Lt w'.heap.size) (Lt w'.heap.size) a3 B _ l n (fun _ h => h) (hrf w' hB') HG.out (fun _ h => h) (hwo w' hB') hll
            have hrt := fun w' hB' => rtorn_any w' (Lt w'.heap.size) (Lt w'.heap.size) a3 B _ l n k (fun _ h => h) (hrf w' hB') HG.out (fun _ h => h) (hwo w' hB') hll
            have hrs := fun w' hB' => rsome_any w' (Lt w'.heap.size) (Lt w'.heap.size) a3 B _ _ l ps (fun _ h => h) (hrf w' hB') HG.out (fun _ h => h) (hwo w' hB') hll (hwp w' hB') hpl
            rw [doF_flat _ HG.out] at hap hso
            rw [tornF_flat HG.out] at hto
            have hg1 := doB_good (l := l) HG.out (List.range (withinN n l.length).toNat)
            have hg3 := doB_good (l := l) HG.out (atF l.length ps)
            have hg2' : Good (rtornB l B n k) := by unfold rtornB; split; exact hg1; exact wrB_good hg1 _ _
            have HG1 := Lib.hid hg1
            have HG2 := Lib.hid hg2'
            have HG3 := Lib.hid hg3
            have HAP := Lib.hid hap
            have HTO := Lib.hid hto
            have HSO := Lib.hid hso
            have HRA := Lib.hid hra
            have HRT := Lib.hid hrt
            have HRS := Lib.hid hrs
            have HIM := Lib.hid hI2'
            have HRF := Lib.hid hI3
            have HW3 := Lib.hid hkw3
            have HBY := Lib.hid (fun (w' : World) (base a : Nat) (f : List UInt8) (n : Nat) (h : OwnImg w' base a f) (hn : f.length = n) (hle : n ≤ 3686400) => (imageBytes_any w' (Lt w'.heap.size) a f (fun _ h => h) (h.is (fun _ _ h => h)) (by omega)).mono (fun e w1 ⟨A, c, he, ho, hB⟩ => (by subst hn; exact ⟨A, c, he, ho, hB⟩ : ∃ A c, e = Ending.returned (.slice A n c) ∧ w1.ownsRow w'.heap.size 5 1 (.slice A n c) n (flats encB f) ∧ Below w'.heap.size w' w1)))
            have HRY := Lib.hid (fun (w' : World) (base a : Nat) (X : List (List UInt8)) (f : List UInt8) (n : Nat) (h : OwnRef w' base a X) (hg : Good X) (hf : X.flatten = f) (hn : f.length = n) => (ref3Bytes_any w' (Lt w'.heap.size) a X (fun _ h => h) (h.is (fun _ _ h => h)) hg).mono (fun e w1 ⟨A, c, m, hm, he, ho, hB⟩ => (by subst hf; subst hn; subst hm; exact ⟨A, c, he, ho, hB⟩ : ∃ A c, e = Ending.returned (.slice A n c) ∧ w1.ownsRow w'.heap.size 5 1 (.slice A n c) n (flats encB f) ∧ Below w'.heap.size w' w1)))
            have hk3 := (Below.refl w3.heap.size w3).drew
            clear hlen hwl hwp hwo him hrf hll hpl hbl hap hto hso hra hrt hrs hg1 hg2' hg3 hI2 hI2' hI3 hB2 hB3 hkw2 hwr3 hfl hg2 hB HV HOF HRO HL HPP HOW HBB HF
            generalize doB l B (List.range (withinN n l.length).toNat) = X1 at *
            generalize rtornB l B n k = X2 at *
            generalize doB l B (atF l.length ps) = X3 at *
            obtain ⟨X0, hX0⟩ : ∃ X, X = B := ⟨_, rfl⟩
            rw [← hX0] at HIM HRF HG
            have HG0 := HG
            clear hX0
            obtain ⟨f0, hf0⟩ : ∃ f, X0.flatten = f := ⟨_, rfl⟩
            obtain ⟨n0, hn0⟩ : ∃ n, f0.length = n := ⟨_, rfl⟩
            have hle0 : n0 ≤ 3686400 := by rw [← hn0, ← hf0, HG0.out.flat]; have := HG0.out.2; omega
            rw [hf0] at HIM
            have HF0 := Lib.hid hf0
            have HN0 := Lib.hid hn0
            have HLE0 := Lib.hid hle0
            clear hf0 hn0 hle0
            obtain ⟨f1, hf1⟩ : ∃ f, X1.flatten = f := ⟨_, rfl⟩
            obtain ⟨n1, hn1⟩ : ∃ n, f1.length = n := ⟨_, rfl⟩
            have hle1 : n1 ≤ 3686400 := by rw [← hn1, ← hf1, HG1.out.flat]; have := HG1.out.2; omega
            rw [hf1] at HAP
            have HF1 := Lib.hid hf1
            have HN1 := Lib.hid hn1
            have HLE1 := Lib.hid hle1
            clear hf1 hn1 hle1
            obtain ⟨f2, hf2⟩ : ∃ f, X2.flatten = f := ⟨_, rfl⟩
            obtain ⟨n2, hn2⟩ : ∃ n, f2.length = n := ⟨_, rfl⟩
            have hle2 : n2 ≤ 3686400 := by rw [← hn2, ← hf2, HG2.out.flat]; have := HG2.out.2; omega
            rw [hf2] at HTO
            have HF2 := Lib.hid hf2
            have HN2 := Lib.hid hn2
            have HLE2 := Lib.hid hle2
            clear hf2 hn2 hle2
            obtain ⟨f3, hf3⟩ : ∃ f, X3.flatten = f := ⟨_, rfl⟩
            obtain ⟨n3, hn3⟩ : ∃ n, f3.length = n := ⟨_, rfl⟩
            have hle3 : n3 ≤ 3686400 := by rw [← hn3, ← hf3, HG3.out.flat]; have := HG3.out.2; omega
            rw [hf3] at HSO
            have HF3 := Lib.hid hf3
            have HN3 := Lib.hid hn3
            have HLE3 := Lib.hid hle3
            clear hf3 hn3 hle3
            refine wp_region_till (T := fun _ => false) (S := fun _ => True) (by kernel_rfl) trivial (fun hHeld => ?_)
            refine wpTill_put 0 46 (oi := _) (v := ?_) rfl rfl (by kernel_rfl) (by kernel_rfl) (by kernel_rfl) (by kernel_rfl) (fun _ _ _ h => h) (by rfl) hHeld ?_ ?_
            rotate_left
            · (intro w hSw; go_simp; (try with_reducible rfl))
            (try simp only [Act.put, List.setIfInBounds_toArray, List.set_cons_zero, List.set_cons_succ])
            refine wpTill_put 1 47 (oi := _) (v := ?_) rfl rfl (by kernel_rfl) (by kernel_rfl) (by kernel_rfl) (by kernel_rfl) (fun _ _ _ h => h) (by rfl) hHeld ?_ ?_
            rotate_left
            · (intro w hSw; go_simp; (try with_reducible rfl))
            (try simp only [Act.put, List.setIfInBounds_toArray, List.set_cons_zero, List.set_cons_succ])
            refine wpTill_put 2 48 (oi := _) (v := ?_) rfl rfl (by kernel_rfl) (by kernel_rfl) (by kernel_rfl) (by kernel_rfl) (fun _ _ _ h => h) (by rfl) hHeld ?_ ?_
            rotate_left
            · (intro w hSw; go_simp; (try with_reducible rfl))
            (try simp only [Act.put, List.setIfInBounds_toArray, List.set_cons_zero, List.set_cons_succ])
            refine wpTill_put 6 52 (oi := _) (v := ?_) rfl rfl (by kernel_rfl) (by kernel_rfl) (by kernel_rfl) (by kernel_rfl) (fun _ _ _ h => h) (by rfl) hHeld ?_ ?_
            rotate_left
            · (intro w hSw; go_simp; (try with_reducible rfl))
            (try simp only [Act.put, List.setIfInBounds_toArray, List.set_cons_zero, List.set_cons_succ])
            refine wpTill_put 7 53 (oi := _) (v := ?_) rfl rfl (by kernel_rfl) (by kernel_rfl) (by kernel_rfl) (by kernel_rfl) (fun _ _ _ h => h) (by rfl) hHeld ?_ ?_
            rotate_left
            · (intro w hSw; go_simp; (try with_reducible rfl))
            (try simp only [Act.put, List.setIfInBounds_toArray, List.set_cons_zero, List.set_cons_succ])
            refine wpTill_put 8 54 (oi := _) (v := ?_) rfl rfl (by kernel_rfl) (by kernel_rfl) (by kernel_rfl) (by kernel_rfl) (fun _ _ _ h => h) (by rfl) hHeld ?_ ?_
            rotate_left
            · (intro w hSw; go_simp; (try with_reducible rfl))
            (try simp only [Act.put, List.setIfInBounds_toArray, List.set_cons_zero, List.set_cons_succ])
            refine wpTill_one 3 (o := _) (by kernel_rfl) rfl (fun K hK => ?_)
            go_simp
            refine (HAP.out _ hk3).mono ?_
            rintro e wa1 ⟨aa1, rfl, hIa1, hBa1⟩
            have hka1 := hk3.trans (hBa1.mono hk3.size)
            refine hK.out _ _ (fun _ => trivial) (fun hHeld => ?_)
            clear hK K
            (try simp only [Act.put, List.setIfInBounds_toArray, List.set_cons_zero, List.set_cons_succ])
            refine wpTill_one 4 (o := _) (by kernel_rfl) rfl (fun K hK => ?_)
            go_simp
            refine (HBY.out _ _ _ _ _ hIa1 HN1.out HLE1.out).mono ?_
            rintro e wb1 ⟨Ab1, cb1, rfl, hob1, hBb1⟩
            have hkb1 := hka1.trans (hBb1.mono hka1.size)
            have HCb1 := Lib.hid (ownRow_conv hob1)
            refine hK.out _ _ (fun _ => trivial) (fun hHeld => ?_)
            clear hK K
            (try simp only [Act.put, List.setIfInBounds_toArray, List.set_cons_zero, List.set_cons_succ])
            refine wpTill_more (S' := (fun w' => (True) ∧ (convert 22 9 (.slice Ab1 n1 cb1)).run Try.prog w' = .ok (.string (strB f1)) w')) (fun _ h => h.1) _ _ _ _ ?_
            clear hHeld
            have hHeld : (fun w' => (True) ∧ (convert 22 9 (.slice Ab1 n1 cb1)).run Try.prog w' = .ok (.string (strB f1)) w') _ := ⟨trivial, HCb1.out _ (Below.refl wb1.heap.size wb1)⟩
            refine wpTill_put 5 51 (oi := _) (v := ?_) rfl rfl (by kernel_rfl) (by kernel_rfl) (by kernel_rfl) (by kernel_rfl) (fun _ _ _ h => h) (by rfl) hHeld ?_ ?_
            rotate_left
            · (intro w hSw; obtain ⟨hS0, hS1⟩ := hSw; go_simp; (try with_reducible rfl))
            (try simp only [Act.put, List.setIfInBounds_toArray, List.set_cons_zero, List.set_cons_succ])
            refine wpTill_one 9 (o := _) (by kernel_rfl) rfl (fun K hK => ?_)
            go_simp
            refine (HRA.out _ hkb1).mono ?_
            rintro e wa1r ⟨aa1r, rfl, hIa1r, hBa1r⟩
            have hka1r := hkb1.trans (hBa1r.mono hkb1.size)
            refine hK.out _ _ (fun _ => ⟨trivial, HCb1.out _ ((Below.refl wb1.heap.size wb1).trans (hBa1r.mono (Below.refl wb1.heap.size wb1).size))⟩) (fun hHeld => ?_)
            clear hK K
            (try simp only [Act.put, List.setIfInBounds_toArray, List.set_cons_zero, List.set_cons_succ])
            refine wpTill_one 10 (o := _) (by kernel_rfl) rfl (fun K hK => ?_)
            go_simp
            refine (HRY.out _ _ _ _ _ _ hIa1r HG1.out HF1.out HN1.out).mono ?_
            rintro e wb1r ⟨Ab1r, cb1r, rfl, hob1r, hBb1r⟩
            have hkb1r := hka1r.trans (hBb1r.mono hka1r.size)
            have HCb1r := Lib.hid (ownRow_conv hob1r)
            refine hK.out _ _ (fun _ => ⟨trivial, HCb1.out _ (((Below.refl wb1.heap.size wb1).trans (hBa1r.mono (Below.refl wb1.heap.size wb1).size)).trans (hBb1r.mono ((Below.refl wb1.heap.size wb1).trans (hBa1r.mono (Below.refl wb1.heap.size wb1).size)).size))⟩) (fun hHeld => ?_)
            clear hK K
            (try simp only [Act.put, List.setIfInBounds_toArray, List.set_cons_zero, List.set_cons_succ])
            refine wpTill_more (S' := (fun w' => ((True) ∧ (convert 22 9 (.slice Ab1 n1 cb1)).run Try.prog w' = .ok (.string (strB f1)) w') ∧ (convert 22 9 (.slice Ab1r n1 cb1r)).run Try.prog w' = .ok (.string (strB f1)) w')) (fun _ h => h.1) _ _ _ _ ?_
            clear hHeld
            have hHeld : (fun w' => ((True) ∧ (convert 22 9 (.slice Ab1 n1 cb1)).run Try.prog w' = .ok (.string (strB f1)) w') ∧ (convert 22 9 (.slice Ab1r n1 cb1r)).run Try.prog w' = .ok (.string (strB f1)) w') _ := ⟨⟨trivial, HCb1.out _ (((Below.refl wb1.heap.size wb1).trans (hBa1r.mono (Below.refl wb1.heap.size wb1).size)).trans (hBb1r.mono ((Below.refl wb1.heap.size wb1).trans (hBa1r.mono (Below.refl wb1.heap.size wb1).size)).size))⟩, HCb1r.out _ (Below.refl wb1r.heap.size wb1r)⟩
            refine wpTill_put 11 57 (oi := _) (v := ?_) rfl rfl (by kernel_rfl) (by kernel_rfl) (by kernel_rfl) (by kernel_rfl) (fun _ _ _ h => h) (by rfl) hHeld ?_ ?_
            rotate_left
            · (intro w hSw; obtain ⟨⟨hS0, hS1⟩, hS2⟩ := hSw; go_simp; (try with_reducible rfl))
            (try simp only [Act.put, List.setIfInBounds_toArray, List.set_cons_zero, List.set_cons_succ])
            refine wpTill_put 12 58 (oi := _) (v := ?_) rfl rfl (by kernel_rfl) (by kernel_rfl) (by kernel_rfl) (by kernel_rfl) (fun _ _ _ h => h) (by rfl) hHeld ?_ ?_
            rotate_left
            · (intro w hSw; obtain ⟨⟨hS0, hS1⟩, hS2⟩ := hSw; go_simp; (try with_reducible rfl))
            (try simp only [Act.put, List.setIfInBounds_toArray, List.set_cons_zero, List.set_cons_succ])
            refine wpTill_done (by kernel_rfl) ?_ _
            have hkd1 := hkb1r
            go_wp2_with fail
            have hkd1 := hkd1.drew
            refine wp_region_till (T := fun _ => false) (S := fun _ => True) (by kernel_rfl) trivial (fun hHeld => ?_)
            refine wpTill_put 0 59 (oi := _) (v := ?_) rfl rfl (by kernel_rfl) (by kernel_rfl) (by kernel_rfl) (by kernel_rfl) (fun _ _ _ h => h) (by rfl) hHeld ?_ ?_
            rotate_left
            · (intro w hSw; go_simp; (try with_reducible rfl))
            (try simp only [Act.put, List.setIfInBounds_toArray, List.set_cons_zero, List.set_cons_succ])
            refine wpTill_put 1 60 (oi := _) (v := ?_) rfl rfl (by kernel_rfl) (by kernel_rfl) (by kernel_rfl) (by kernel_rfl) (fun _ _ _ h => h) (by rfl) hHeld ?_ ?_
            rotate_left
            · (intro w hSw; go_simp; (try with_reducible rfl))
            (try simp only [Act.put, List.setIfInBounds_toArray, List.set_cons_zero, List.set_cons_succ])
            refine wpTill_put 2 61 (oi := _) (v := ?_) rfl rfl (by kernel_rfl) (by kernel_rfl) (by kernel_rfl) (by kernel_rfl) (fun _ _ _ h => h) (by rfl) hHeld ?_ ?_
            rotate_left
            · (intro w hSw; go_simp; (try with_reducible rfl))
            (try simp only [Act.put, List.setIfInBounds_toArray, List.set_cons_zero, List.set_cons_succ])
            refine wpTill_put 3 62 (oi := _) (v := ?_) rfl rfl (by kernel_rfl) (by kernel_rfl) (by kernel_rfl) (by kernel_rfl) (fun _ _ _ h => h) (by rfl) hHeld ?_ ?_
            rotate_left
            · (intro w hSw; go_simp; (try with_reducible rfl))
            (try simp only [Act.put, List.setIfInBounds_toArray, List.set_cons_zero, List.set_cons_succ])
            refine wpTill_put 7 66 (oi := _) (v := ?_) rfl rfl (by kernel_rfl) (by kernel_rfl) (by kernel_rfl) (by kernel_rfl) (fun _ _ _ h => h) (by rfl) hHeld ?_ ?_
            rotate_left
            · (intro w hSw; go_simp; (try with_reducible rfl))
            (try simp only [Act.put, List.setIfInBounds_toArray, List.set_cons_zero, List.set_cons_succ])
            refine wpTill_put 8 67 (oi := _) (v := ?_) rfl rfl (by kernel_rfl) (by kernel_rfl) (by kernel_rfl) (by kernel_rfl) (fun _ _ _ h => h) (by rfl) hHeld ?_ ?_
            rotate_left
            · (intro w hSw; go_simp; (try with_reducible rfl))
            (try simp only [Act.put, List.setIfInBounds_toArray, List.set_cons_zero, List.set_cons_succ])
            refine wpTill_put 9 68 (oi := _) (v := ?_) rfl rfl (by kernel_rfl) (by kernel_rfl) (by kernel_rfl) (by kernel_rfl) (fun _ _ _ h => h) (by rfl) hHeld ?_ ?_
            rotate_left
            · (intro w hSw; go_simp; (try with_reducible rfl))
            (try simp only [Act.put, List.setIfInBounds_toArray, List.set_cons_zero, List.set_cons_succ])
            refine wpTill_put 10 69 (oi := _) (v := ?_) rfl rfl (by kernel_rfl) (by kernel_rfl) (by kernel_rfl) (by kernel_rfl) (fun _ _ _ h => h) (by rfl) hHeld ?_ ?_
            rotate_left
            · (intro w hSw; go_simp; (try with_reducible rfl))
            (try simp only [Act.put, List.setIfInBounds_toArray, List.set_cons_zero, List.set_cons_succ])
            refine wpTill_one 4 (o := _) (by kernel_rfl) rfl (fun K hK => ?_)
            go_simp
            refine (HTO.out _ hkd1).mono ?_
            rintro e wa2 ⟨aa2, rfl, hIa2, hBa2⟩
            have hka2 := hkd1.trans (hBa2.mono hkd1.size)
            refine hK.out _ _ (fun _ => trivial) (fun hHeld => ?_)
            clear hK K
            (try simp only [Act.put, List.setIfInBounds_toArray, List.set_cons_zero, List.set_cons_succ])
            refine wpTill_one 5 (o := _) (by kernel_rfl) rfl (fun K hK => ?_)
            go_simp
            refine (HBY.out _ _ _ _ _ hIa2 HN2.out HLE2.out).mono ?_
            rintro e wb2 ⟨Ab2, cb2, rfl, hob2, hBb2⟩
            have hkb2 := hka2.trans (hBb2.mono hka2.size)
            have HCb2 := Lib.hid (ownRow_conv hob2)
            refine hK.out _ _ (fun _ => trivial) (fun hHeld => ?_)
            clear hK K
            (try simp only [Act.put, List.setIfInBounds_toArray, List.set_cons_zero, List.set_cons_succ])
            refine wpTill_more (S' := (fun w' => (True) ∧ (convert 22 9 (.slice Ab2 n2 cb2)).run Try.prog w' = .ok (.string (strB f2)) w')) (fun _ h => h.1) _ _ _ _ ?_
            clear hHeld
            have hHeld : (fun w' => (True) ∧ (convert 22 9 (.slice Ab2 n2 cb2)).run Try.prog w' = .ok (.string (strB f2)) w') _ := ⟨trivial, HCb2.out _ (Below.refl wb2.heap.size wb2)⟩
            refine wpTill_put 6 65 (oi := _) (v := ?_) rfl rfl (by kernel_rfl) (by kernel_rfl) (by kernel_rfl) (by kernel_rfl) (fun _ _ _ h => h) (by rfl) hHeld ?_ ?_
            rotate_left
            · (intro w hSw; obtain ⟨hS0, hS1⟩ := hSw; go_simp; (try with_reducible rfl))
            (try simp only [Act.put, List.setIfInBounds_toArray, List.set_cons_zero, List.set_cons_succ])
            refine wpTill_one 11 (o := _) (by kernel_rfl) rfl (fun K hK => ?_)
            go_simp
            refine (HRT.out _ hkb2).mono ?_
            rintro e wa2r ⟨aa2r, rfl, hIa2r, hBa2r⟩
            have hka2r := hkb2.trans (hBa2r.mono hkb2.size)
            refine hK.out _ _ (fun _ => ⟨trivial, HCb2.out _ ((Below.refl wb2.heap.size wb2).trans (hBa2r.mono (Below.refl wb2.heap.size wb2).size))⟩) (fun hHeld => ?_)
            clear hK K
            (try simp only [Act.put, List.setIfInBounds_toArray, List.set_cons_zero, List.set_cons_succ])
            refine wpTill_one 12 (o := _) (by kernel_rfl) rfl (fun K hK => ?_)
            go_simp
            refine (HRY.out _ _ _ _ _ _ hIa2r HG2.out HF2.out HN2.out).mono ?_
            rintro e wb2r ⟨Ab2r, cb2r, rfl, hob2r, hBb2r⟩
            have hkb2r := hka2r.trans (hBb2r.mono hka2r.size)
            have HCb2r := Lib.hid (ownRow_conv hob2r)
            refine hK.out _ _ (fun _ => ⟨trivial, HCb2.out _ (((Below.refl wb2.heap.size wb2).trans (hBa2r.mono (Below.refl wb2.heap.size wb2).size)).trans (hBb2r.mono ((Below.refl wb2.heap.size wb2).trans (hBa2r.mono (Below.refl wb2.heap.size wb2).size)).size))⟩) (fun hHeld => ?_)
            clear hK K
            (try simp only [Act.put, List.setIfInBounds_toArray, List.set_cons_zero, List.set_cons_succ])
            refine wpTill_more (S' := (fun w' => ((True) ∧ (convert 22 9 (.slice Ab2 n2 cb2)).run Try.prog w' = .ok (.string (strB f2)) w') ∧ (convert 22 9 (.slice Ab2r n2 cb2r)).run Try.prog w' = .ok (.string (strB f2)) w')) (fun _ h => h.1) _ _ _ _ ?_
            clear hHeld
            have hHeld : (fun w' => ((True) ∧ (convert 22 9 (.slice Ab2 n2 cb2)).run Try.prog w' = .ok (.string (strB f2)) w') ∧ (convert 22 9 (.slice Ab2r n2 cb2r)).run Try.prog w' = .ok (.string (strB f2)) w') _ := ⟨⟨trivial, HCb2.out _ (((Below.refl wb2.heap.size wb2).trans (hBa2r.mono (Below.refl wb2.heap.size wb2).size)).trans (hBb2r.mono ((Below.refl wb2.heap.size wb2).trans (hBa2r.mono (Below.refl wb2.heap.size wb2).size)).size))⟩, HCb2r.out _ (Below.refl wb2r.heap.size wb2r)⟩
            refine wpTill_put 13 72 (oi := _) (v := ?_) rfl rfl (by kernel_rfl) (by kernel_rfl) (by kernel_rfl) (by kernel_rfl) (fun _ _ _ h => h) (by rfl) hHeld ?_ ?_
            rotate_left
            · (intro w hSw; obtain ⟨⟨hS0, hS1⟩, hS2⟩ := hSw; go_simp; (try with_reducible rfl))
            (try simp only [Act.put, List.setIfInBounds_toArray, List.set_cons_zero, List.set_cons_succ])
            refine wpTill_put 14 73 (oi := _) (v := ?_) rfl rfl (by kernel_rfl) (by kernel_rfl) (by kernel_rfl) (by kernel_rfl) (fun _ _ _ h => h) (by rfl) hHeld ?_ ?_
            rotate_left
            · (intro w hSw; obtain ⟨⟨hS0, hS1⟩, hS2⟩ := hSw; go_simp; (try with_reducible rfl))
            (try simp only [Act.put, List.setIfInBounds_toArray, List.set_cons_zero, List.set_cons_succ])
            refine wpTill_done (by kernel_rfl) ?_ _
            have hkd2 := hkb2r
            go_wp2_with fail
            have hkd2 := hkd2.drew
            refine wp_region_till (T := fun _ => false) (S := fun _ => True) (by kernel_rfl) trivial (fun hHeld => ?_)
            refine wpTill_put 0 74 (oi := _) (v := ?_) rfl rfl (by kernel_rfl) (by kernel_rfl) (by kernel_rfl) (by kernel_rfl) (fun _ _ _ h => h) (by rfl) hHeld ?_ ?_
            rotate_left
            · (intro w hSw; go_simp; (try with_reducible rfl))
            (try simp only [Act.put, List.setIfInBounds_toArray, List.set_cons_zero, List.set_cons_succ])
            refine wpTill_put 1 75 (oi := _) (v := ?_) rfl rfl (by kernel_rfl) (by kernel_rfl) (by kernel_rfl) (by kernel_rfl) (fun _ _ _ h => h) (by rfl) hHeld ?_ ?_
            rotate_left
            · (intro w hSw; go_simp; (try with_reducible rfl))
            (try simp only [Act.put, List.setIfInBounds_toArray, List.set_cons_zero, List.set_cons_succ])
            refine wpTill_put 2 76 (oi := _) (v := ?_) rfl rfl (by kernel_rfl) (by kernel_rfl) (by kernel_rfl) (by kernel_rfl) (fun _ _ _ h => h) (by rfl) hHeld ?_ ?_
            rotate_left
            · (intro w hSw; go_simp; (try with_reducible rfl))
            (try simp only [Act.put, List.setIfInBounds_toArray, List.set_cons_zero, List.set_cons_succ])
            refine wpTill_put 6 80 (oi := _) (v := ?_) rfl rfl (by kernel_rfl) (by kernel_rfl) (by kernel_rfl) (by kernel_rfl) (fun _ _ _ h => h) (by rfl) hHeld ?_ ?_
            rotate_left
            · (intro w hSw; go_simp; (try with_reducible rfl))
            (try simp only [Act.put, List.setIfInBounds_toArray, List.set_cons_zero, List.set_cons_succ])
            refine wpTill_put 7 81 (oi := _) (v := ?_) rfl rfl (by kernel_rfl) (by kernel_rfl) (by kernel_rfl) (by kernel_rfl) (fun _ _ _ h => h) (by rfl) hHeld ?_ ?_
            rotate_left
            · (intro w hSw; go_simp; (try with_reducible rfl))
            (try simp only [Act.put, List.setIfInBounds_toArray, List.set_cons_zero, List.set_cons_succ])
            refine wpTill_put 8 82 (oi := _) (v := ?_) rfl rfl (by kernel_rfl) (by kernel_rfl) (by kernel_rfl) (by kernel_rfl) (fun _ _ _ h => h) (by rfl) hHeld ?_ ?_
            rotate_left
            · (intro w hSw; go_simp; (try with_reducible rfl))
            (try simp only [Act.put, List.setIfInBounds_toArray, List.set_cons_zero, List.set_cons_succ])
            refine wpTill_one 3 (o := _) (by kernel_rfl) rfl (fun K hK => ?_)
            go_simp
            refine (HSO.out _ hkd2).mono ?_
            rintro e wa3 ⟨aa3, rfl, hIa3, hBa3⟩
            have hka3 := hkd2.trans (hBa3.mono hkd2.size)
            refine hK.out _ _ (fun _ => trivial) (fun hHeld => ?_)
            clear hK K
            (try simp only [Act.put, List.setIfInBounds_toArray, List.set_cons_zero, List.set_cons_succ])
            refine wpTill_one 4 (o := _) (by kernel_rfl) rfl (fun K hK => ?_)
            go_simp
            refine (HBY.out _ _ _ _ _ hIa3 HN3.out HLE3.out).mono ?_
            rintro e wb3 ⟨Ab3, cb3, rfl, hob3, hBb3⟩
            have hkb3 := hka3.trans (hBb3.mono hka3.size)
            have HCb3 := Lib.hid (ownRow_conv hob3)
            refine hK.out _ _ (fun _ => trivial) (fun hHeld => ?_)
            clear hK K
            (try simp only [Act.put, List.setIfInBounds_toArray, List.set_cons_zero, List.set_cons_succ])
            refine wpTill_more (S' := (fun w' => (True) ∧ (convert 22 9 (.slice Ab3 n3 cb3)).run Try.prog w' = .ok (.string (strB f3)) w')) (fun _ h => h.1) _ _ _ _ ?_
            clear hHeld
            have hHeld : (fun w' => (True) ∧ (convert 22 9 (.slice Ab3 n3 cb3)).run Try.prog w' = .ok (.string (strB f3)) w') _ := ⟨trivial, HCb3.out _ (Below.refl wb3.heap.size wb3)⟩
            refine wpTill_put 5 79 (oi := _) (v := ?_) rfl rfl (by kernel_rfl) (by kernel_rfl) (by kernel_rfl) (by kernel_rfl) (fun _ _ _ h => h) (by rfl) hHeld ?_ ?_
            rotate_left
            · (intro w hSw; obtain ⟨hS0, hS1⟩ := hSw; go_simp; (try with_reducible rfl))
            (try simp only [Act.put, List.setIfInBounds_toArray, List.set_cons_zero, List.set_cons_succ])
            refine wpTill_one 9 (o := _) (by kernel_rfl) rfl (fun K hK => ?_)
            go_simp
            refine (HRS.out _ hkb3).mono ?_
            rintro e wa3r ⟨aa3r, rfl, hIa3r, hBa3r⟩
            have hka3r := hkb3.trans (hBa3r.mono hkb3.size)
            refine hK.out _ _ (fun _ => ⟨trivial, HCb3.out _ ((Below.refl wb3.heap.size wb3).trans (hBa3r.mono (Below.refl wb3.heap.size wb3).size))⟩) (fun hHeld => ?_)
            clear hK K
            (try simp only [Act.put, List.setIfInBounds_toArray, List.set_cons_zero, List.set_cons_succ])
            refine wpTill_one 10 (o := _) (by kernel_rfl) rfl (fun K hK => ?_)
            go_simp
            refine (HRY.out _ _ _ _ _ _ hIa3r HG3.out HF3.out HN3.out).mono ?_
            rintro e wb3r ⟨Ab3r, cb3r, rfl, hob3r, hBb3r⟩
            have hkb3r := hka3r.trans (hBb3r.mono hka3r.size)
            have HCb3r := Lib.hid (ownRow_conv hob3r)
            refine hK.out _ _ (fun _ => ⟨trivial, HCb3.out _ (((Below.refl wb3.heap.size wb3).trans (hBa3r.mono (Below.refl wb3.heap.size wb3).size)).trans (hBb3r.mono ((Below.refl wb3.heap.size wb3).trans (hBa3r.mono (Below.refl wb3.heap.size wb3).size)).size))⟩) (fun hHeld => ?_)
            clear hK K
            (try simp only [Act.put, List.setIfInBounds_toArray, List.set_cons_zero, List.set_cons_succ])
            refine wpTill_more (S' := (fun w' => ((True) ∧ (convert 22 9 (.slice Ab3 n3 cb3)).run Try.prog w' = .ok (.string (strB f3)) w') ∧ (convert 22 9 (.slice Ab3r n3 cb3r)).run Try.prog w' = .ok (.string (strB f3)) w')) (fun _ h => h.1) _ _ _ _ ?_
            clear hHeld
            have hHeld : (fun w' => ((True) ∧ (convert 22 9 (.slice Ab3 n3 cb3)).run Try.prog w' = .ok (.string (strB f3)) w') ∧ (convert 22 9 (.slice Ab3r n3 cb3r)).run Try.prog w' = .ok (.string (strB f3)) w') _ := ⟨⟨trivial, HCb3.out _ (((Below.refl wb3.heap.size wb3).trans (hBa3r.mono (Below.refl wb3.heap.size wb3).size)).trans (hBb3r.mono ((Below.refl wb3.heap.size wb3).trans (hBa3r.mono (Below.refl wb3.heap.size wb3).size)).size))⟩, HCb3r.out _ (Below.refl wb3r.heap.size wb3r)⟩
            refine wpTill_put 11 85 (oi := _) (v := ?_) rfl rfl (by kernel_rfl) (by kernel_rfl) (by kernel_rfl) (by kernel_rfl) (fun _ _ _ h => h) (by rfl) hHeld ?_ ?_
            rotate_left
            · (intro w hSw; obtain ⟨⟨hS0, hS1⟩, hS2⟩ := hSw; go_simp; (try with_reducible rfl))
            (try simp only [Act.put, List.setIfInBounds_toArray, List.set_cons_zero, List.set_cons_succ])
            refine wpTill_put 12 86 (oi := _) (v := ?_) rfl rfl (by kernel_rfl) (by kernel_rfl) (by kernel_rfl) (by kernel_rfl) (fun _ _ _ h => h) (by rfl) hHeld ?_ ?_
            rotate_left
            · (intro w hSw; obtain ⟨⟨hS0, hS1⟩, hS2⟩ := hSw; go_simp; (try with_reducible rfl))
            (try simp only [Act.put, List.setIfInBounds_toArray, List.set_cons_zero, List.set_cons_succ])
            refine wpTill_put 13 87 (oi := _) (v := ?_) rfl rfl (by kernel_rfl) (by kernel_rfl) (by kernel_rfl) (by kernel_rfl) (fun _ _ _ h => h) (by rfl) hHeld ?_ ?_
            rotate_left
            · (intro w hSw; obtain ⟨⟨hS0, hS1⟩, hS2⟩ := hSw; go_simp; (try with_reducible rfl))
            (try simp only [Act.put, List.setIfInBounds_toArray, List.set_cons_zero, List.set_cons_succ])
            refine wpTill_put 14 88 (oi := _) (v := ?_) rfl rfl (by kernel_rfl) (by kernel_rfl) (by kernel_rfl) (by kernel_rfl) (fun _ _ _ h => h) (by rfl) hHeld ?_ ?_
            rotate_left
            · (intro w hSw; obtain ⟨⟨hS0, hS1⟩, hS2⟩ := hSw; go_simp; (try with_reducible rfl))
            (try simp only [Act.put, List.setIfInBounds_toArray, List.set_cons_zero, List.set_cons_succ])
            refine wpTill_put 17 91 (oi := _) (v := ?_) rfl rfl (by kernel_rfl) (by kernel_rfl) (by kernel_rfl) (by kernel_rfl) (fun _ _ _ h => h) (by rfl) hHeld ?_ ?_
            rotate_left
            · (intro w hSw; obtain ⟨⟨hS0, hS1⟩, hS2⟩ := hSw; go_simp; (try with_reducible rfl))
            (try simp only [Act.put, List.setIfInBounds_toArray, List.set_cons_zero, List.set_cons_succ])
            refine wpTill_one 15 (o := _) (by kernel_rfl) rfl (fun K hK => ?_)
            go_simp
            refine (HBY.out _ _ _ _ _ (HIM.out.below hkb3r (Nat.le_refl _)) HN0.out HLE0.out).mono ?_
            rintro e wb4 ⟨Ab4, cb4, rfl, hob4, hBb4⟩
            have hkb4 := hkb3r.trans (hBb4.mono hkb3r.size)
            have HCb4 := Lib.hid (ownRow_conv hob4)
            refine hK.out _ _ (fun _ => ⟨⟨trivial, HCb3.out _ ((((Below.refl wb3.heap.size wb3).trans (hBa3r.mono (Below.refl wb3.heap.size wb3).size)).trans (hBb3r.mono ((Below.refl wb3.heap.size wb3).trans (hBa3r.mono (Below.refl wb3.heap.size wb3).size)).size)).trans (hBb4.mono (((Below.refl wb3.heap.size wb3).trans (hBa3r.mono (Below.refl wb3.heap.size wb3).size)).trans (hBb3r.mono ((Below.refl wb3.heap.size wb3).trans (hBa3r.mono (Below.refl wb3.heap.size wb3).size)).size)).size))⟩, HCb3r.out _ ((Below.refl wb3r.heap.size wb3r).trans (hBb4.mono (Below.refl wb3r.heap.size wb3r).size))⟩) (fun hHeld => ?_)
            clear hK K
            (try simp only [Act.put, List.setIfInBounds_toArray, List.set_cons_zero, List.set_cons_succ])
            refine wpTill_more (S' := (fun w' => (((True) ∧ (convert 22 9 (.slice Ab3 n3 cb3)).run Try.prog w' = .ok (.string (strB f3)) w') ∧ (convert 22 9 (.slice Ab3r n3 cb3r)).run Try.prog w' = .ok (.string (strB f3)) w') ∧ (convert 22 9 (.slice Ab4 n0 cb4)).run Try.prog w' = .ok (.string (strB f0)) w')) (fun _ h => h.1) _ _ _ _ ?_
            clear hHeld
            have hHeld : (fun w' => (((True) ∧ (convert 22 9 (.slice Ab3 n3 cb3)).run Try.prog w' = .ok (.string (strB f3)) w') ∧ (convert 22 9 (.slice Ab3r n3 cb3r)).run Try.prog w' = .ok (.string (strB f3)) w') ∧ (convert 22 9 (.slice Ab4 n0 cb4)).run Try.prog w' = .ok (.string (strB f0)) w') _ := ⟨⟨⟨trivial, HCb3.out _ ((((Below.refl wb3.heap.size wb3).trans (hBa3r.mono (Below.refl wb3.heap.size wb3).size)).trans (hBb3r.mono ((Below.refl wb3.heap.size wb3).trans (hBa3r.mono (Below.refl wb3.heap.size wb3).size)).size)).trans (hBb4.mono (((Below.refl wb3.heap.size wb3).trans (hBa3r.mono (Below.refl wb3.heap.size wb3).size)).trans (hBb3r.mono ((Below.refl wb3.heap.size wb3).trans (hBa3r.mono (Below.refl wb3.heap.size wb3).size)).size)).size))⟩, HCb3r.out _ ((Below.refl wb3r.heap.size wb3r).trans (hBb4.mono (Below.refl wb3r.heap.size wb3r).size))⟩, HCb4.out _ (Below.refl wb4.heap.size wb4)⟩
            refine wpTill_put 16 90 (oi := _) (v := ?_) rfl rfl (by kernel_rfl) (by kernel_rfl) (by kernel_rfl) (by kernel_rfl) (fun _ _ _ h => h) (by rfl) hHeld ?_ ?_
            rotate_left
            · (intro w hSw; obtain ⟨⟨⟨hS0, hS1⟩, hS2⟩, hS3⟩ := hSw; go_simp; (try with_reducible rfl))
            (try simp only [Act.put, List.setIfInBounds_toArray, List.set_cons_zero, List.set_cons_succ])
            refine wpTill_one 18 (o := _) (by kernel_rfl) rfl (fun K hK => ?_)
            go_simp
            refine (HRY.out _ _ _ _ _ _ (HRF.out.below hkb4 (Nat.le_refl _)) HG0.out HF0.out HN0.out).mono ?_
            rintro e wb4r ⟨Ab4r, cb4r, rfl, hob4r, hBb4r⟩
            have hkb4r := hkb4.trans (hBb4r.mono hkb4.size)
            have HCb4r := Lib.hid (ownRow_conv hob4r)
            refine hK.out _ _ (fun _ => ⟨⟨⟨trivial, HCb3.out _ (((((Below.refl wb3.heap.size wb3).trans (hBa3r.mono (Below.refl wb3.heap.size wb3).size)).trans (hBb3r.mono ((Below.refl wb3.heap.size wb3).trans (hBa3r.mono (Below.refl wb3.heap.size wb3).size)).size)).trans (hBb4.mono (((Below.refl wb3.heap.size wb3).trans (hBa3r.mono (Below.refl wb3.heap.size wb3).size)).trans (hBb3r.mono ((Below.refl wb3.heap.size wb3).trans (hBa3r.mono (Below.refl wb3.heap.size wb3).size)).size)).size)).trans (hBb4r.mono ((((Below.refl wb3.heap.size wb3).trans (hBa3r.mono (Below.refl wb3.heap.size wb3).size)).trans (hBb3r.mono ((Below.refl wb3.heap.size wb3).trans (hBa3r.mono (Below.refl wb3.heap.size wb3).size)).size)).trans (hBb4.mono (((Below.refl wb3.heap.size wb3).trans (hBa3r.mono (Below.refl wb3.heap.size wb3).size)).trans (hBb3r.mono ((Below.refl wb3.heap.size wb3).trans (hBa3r.mono (Below.refl wb3.heap.size wb3).size)).size)).size)).size))⟩, HCb3r.out _ (((Below.refl wb3r.heap.size wb3r).trans (hBb4.mono (Below.refl wb3r.heap.size wb3r).size)).trans (hBb4r.mono ((Below.refl wb3r.heap.size wb3r).trans (hBb4.mono (Below.refl wb3r.heap.size wb3r).size)).size))⟩, HCb4.out _ ((Below.refl wb4.heap.size wb4).trans (hBb4r.mono (Below.refl wb4.heap.size wb4).size))⟩) (fun hHeld => ?_)
            clear hK K
            (try simp only [Act.put, List.setIfInBounds_toArray, List.set_cons_zero, List.set_cons_succ])
            refine wpTill_more (S' := (fun w' => ((((True) ∧ (convert 22 9 (.slice Ab3 n3 cb3)).run Try.prog w' = .ok (.string (strB f3)) w') ∧ (convert 22 9 (.slice Ab3r n3 cb3r)).run Try.prog w' = .ok (.string (strB f3)) w') ∧ (convert 22 9 (.slice Ab4 n0 cb4)).run Try.prog w' = .ok (.string (strB f0)) w') ∧ (convert 22 9 (.slice Ab4r n0 cb4r)).run Try.prog w' = .ok (.string (strB f0)) w')) (fun _ h => h.1) _ _ _ _ ?_
            clear hHeld
            have hHeld : (fun w' => ((((True) ∧ (convert 22 9 (.slice Ab3 n3 cb3)).run Try.prog w' = .ok (.string (strB f3)) w') ∧ (convert 22 9 (.slice Ab3r n3 cb3r)).run Try.prog w' = .ok (.string (strB f3)) w') ∧ (convert 22 9 (.slice Ab4 n0 cb4)).run Try.prog w' = .ok (.string (strB f0)) w') ∧ (convert 22 9 (.slice Ab4r n0 cb4r)).run Try.prog w' = .ok (.string (strB f0)) w') _ := ⟨⟨⟨⟨trivial, HCb3.out _ (((((Below.refl wb3.heap.size wb3).trans (hBa3r.mono (Below.refl wb3.heap.size wb3).size)).trans (hBb3r.mono ((Below.refl wb3.heap.size wb3).trans (hBa3r.mono (Below.refl wb3.heap.size wb3).size)).size)).trans (hBb4.mono (((Below.refl wb3.heap.size wb3).trans (hBa3r.mono (Below.refl wb3.heap.size wb3).size)).trans (hBb3r.mono ((Below.refl wb3.heap.size wb3).trans (hBa3r.mono (Below.refl wb3.heap.size wb3).size)).size)).size)).trans (hBb4r.mono ((((Below.refl wb3.heap.size wb3).trans (hBa3r.mono (Below.refl wb3.heap.size wb3).size)).trans (hBb3r.mono ((Below.refl wb3.heap.size wb3).trans (hBa3r.mono (Below.refl wb3.heap.size wb3).size)).size)).trans (hBb4.mono (((Below.refl wb3.heap.size wb3).trans (hBa3r.mono (Below.refl wb3.heap.size wb3).size)).trans (hBb3r.mono ((Below.refl wb3.heap.size wb3).trans (hBa3r.mono (Below.refl wb3.heap.size wb3).size)).size)).size)).size))⟩, HCb3r.out _ (((Below.refl wb3r.heap.size wb3r).trans (hBb4.mono (Below.refl wb3r.heap.size wb3r).size)).trans (hBb4r.mono ((Below.refl wb3r.heap.size wb3r).trans (hBb4.mono (Below.refl wb3r.heap.size wb3r).size)).size))⟩, HCb4.out _ ((Below.refl wb4.heap.size wb4).trans (hBb4r.mono (Below.refl wb4.heap.size wb4).size))⟩, HCb4r.out _ (Below.refl wb4r.heap.size wb4r)⟩
            refine wpTill_put 19 93 (oi := _) (v := ?_) rfl rfl (by kernel_rfl) (by kernel_rfl) (by kernel_rfl) (by kernel_rfl) (fun _ _ _ h => h) (by rfl) hHeld ?_ ?_
            rotate_left
            · (intro w hSw; obtain ⟨⟨⟨⟨hS0, hS1⟩, hS2⟩, hS3⟩, hS4⟩ := hSw; go_simp; (try with_reducible rfl))
            (try simp only [Act.put, List.setIfInBounds_toArray, List.set_cons_zero, List.set_cons_succ])
            refine wpTill_put 20 94 (oi := _) (v := ?_) rfl rfl (by kernel_rfl) (by kernel_rfl) (by kernel_rfl) (by kernel_rfl) (fun _ _ _ h => h) (by rfl) hHeld ?_ ?_
            rotate_left
            · (intro w hSw; obtain ⟨⟨⟨⟨hS0, hS1⟩, hS2⟩, hS3⟩, hS4⟩ := hSw; go_simp; (try with_reducible rfl))
            (try simp only [Act.put, List.setIfInBounds_toArray, List.set_cons_zero, List.set_cons_succ])
            refine wpTill_put 21 95 (oi := _) (v := ?_) rfl rfl (by kernel_rfl) (by kernel_rfl) (by kernel_rfl) (by kernel_rfl) (fun _ _ _ h => h) (by rfl) hHeld ?_ ?_
            rotate_left
            · (intro w hSw; obtain ⟨⟨⟨⟨hS0, hS1⟩, hS2⟩, hS3⟩, hS4⟩ := hSw; go_simp; (try with_reducible rfl))
            (try simp only [Act.put, List.setIfInBounds_toArray, List.set_cons_zero, List.set_cons_succ])
            refine wpTill_put 22 96 (oi := _) (v := ?_) rfl rfl (by kernel_rfl) (by kernel_rfl) (by kernel_rfl) (by kernel_rfl) (fun _ _ _ h => h) (by rfl) hHeld ?_ ?_
            rotate_left
            · (intro w hSw; obtain ⟨⟨⟨⟨hS0, hS1⟩, hS2⟩, hS3⟩, hS4⟩ := hSw; go_simp; (try with_reducible rfl))
            (try simp only [Act.put, List.setIfInBounds_toArray, List.set_cons_zero, List.set_cons_succ])
            refine wpTill_one 23 (o := _) (by kernel_rfl) rfl (fun K hK => ?_)
            go_simp
            refine (lives51 _).mono ?_
            rintro e wl5 ⟨rfl, hBl5⟩
            have hkl5 := hkb4r.trans (hBl5.mono hkb4r.size)
            refine hK.out _ _ (fun _ => ⟨⟨⟨⟨trivial, HCb3.out _ ((((((Below.refl wb3.heap.size wb3).trans (hBa3r.mono (Below.refl wb3.heap.size wb3).size)).trans (hBb3r.mono ((Below.refl wb3.heap.size wb3).trans (hBa3r.mono (Below.refl wb3.heap.size wb3).size)).size)).trans (hBb4.mono (((Below.refl wb3.heap.size wb3).trans (hBa3r.mono (Below.refl wb3.heap.size wb3).size)).trans (hBb3r.mono ((Below.refl wb3.heap.size wb3).trans (hBa3r.mono (Below.refl wb3.heap.size wb3).size)).size)).size)).trans (hBb4r.mono ((((Below.refl wb3.heap.size wb3).trans (hBa3r.mono (Below.refl wb3.heap.size wb3).size)).trans (hBb3r.mono ((Below.refl wb3.heap.size wb3).trans (hBa3r.mono (Below.refl wb3.heap.size wb3).size)).size)).trans (hBb4.mono (((Below.refl wb3.heap.size wb3).trans (hBa3r.mono (Below.refl wb3.heap.size wb3).size)).trans (hBb3r.mono ((Below.refl wb3.heap.size wb3).trans (hBa3r.mono (Below.refl wb3.heap.size wb3).size)).size)).size)).size)).trans (hBl5.mono (((((Below.refl wb3.heap.size wb3).trans (hBa3r.mono (Below.refl wb3.heap.size wb3).size)).trans (hBb3r.mono ((Below.refl wb3.heap.size wb3).trans (hBa3r.mono (Below.refl wb3.heap.size wb3).size)).size)).trans (hBb4.mono (((Below.refl wb3.heap.size wb3).trans (hBa3r.mono (Below.refl wb3.heap.size wb3).size)).trans (hBb3r.mono ((Below.refl wb3.heap.size wb3).trans (hBa3r.mono (Below.refl wb3.heap.size wb3).size)).size)).size)).trans (hBb4r.mono ((((Below.refl wb3.heap.size wb3).trans (hBa3r.mono (Below.refl wb3.heap.size wb3).size)).trans (hBb3r.mono ((Below.refl wb3.heap.size wb3).trans (hBa3r.mono (Below.refl wb3.heap.size wb3).size)).size)).trans (hBb4.mono (((Below.refl wb3.heap.size wb3).trans (hBa3r.mono (Below.refl wb3.heap.size wb3).size)).trans (hBb3r.mono ((Below.refl wb3.heap.size wb3).trans (hBa3r.mono (Below.refl wb3.heap.size wb3).size)).size)).size)).size)).size))⟩, HCb3r.out _ ((((Below.refl wb3r.heap.size wb3r).trans (hBb4.mono (Below.refl wb3r.heap.size wb3r).size)).trans (hBb4r.mono ((Below.refl wb3r.heap.size wb3r).trans (hBb4.mono (Below.refl wb3r.heap.size wb3r).size)).size)).trans (hBl5.mono (((Below.refl wb3r.heap.size wb3r).trans (hBb4.mono (Below.refl wb3r.heap.size wb3r).size)).trans (hBb4r.mono ((Below.refl wb3r.heap.size wb3r).trans (hBb4.mono (Below.refl wb3r.heap.size wb3r).size)).size)).size))⟩, HCb4.out _ (((Below.refl wb4.heap.size wb4).trans (hBb4r.mono (Below.refl wb4.heap.size wb4).size)).trans (hBl5.mono ((Below.refl wb4.heap.size wb4).trans (hBb4r.mono (Below.refl wb4.heap.size wb4).size)).size))⟩, HCb4r.out _ ((Below.refl wb4r.heap.size wb4r).trans (hBl5.mono (Below.refl wb4r.heap.size wb4r).size))⟩) (fun hHeld => ?_)
            clear hK K
            (try simp only [Act.put, List.setIfInBounds_toArray, List.set_cons_zero, List.set_cons_succ])
            have hHeld := hHeld rfl
            refine wpTill_put 24 98 (oi := _) (v := ?_) rfl rfl (by kernel_rfl) (by kernel_rfl) (by kernel_rfl) (by kernel_rfl) (fun _ _ _ h => h) (by rfl) hHeld ?_ ?_
            rotate_left
            · (intro w hSw; obtain ⟨⟨⟨⟨hS0, hS1⟩, hS2⟩, hS3⟩, hS4⟩ := hSw; go_simp; (try with_reducible rfl))
            (try simp only [Act.put, List.setIfInBounds_toArray, List.set_cons_zero, List.set_cons_succ])
            refine wpTill_put 25 10 (oi := _) (v := ?_) rfl rfl (by kernel_rfl) (by kernel_rfl) (by kernel_rfl) (by kernel_rfl) (fun _ _ _ h => h) (by rfl) hHeld ?_ ?_
            rotate_left
            · (intro w hSw; obtain ⟨⟨⟨⟨hS0, hS1⟩, hS2⟩, hS3⟩, hS4⟩ := hSw; go_simp; (try with_reducible rfl))
            (try simp only [Act.put, List.setIfInBounds_toArray, List.set_cons_zero, List.set_cons_succ])
            refine wpTill_done (by kernel_rfl) ?_ _
            go_wp2_with fail
            go_ret
            exact ⟨rfl, HW3.out.trans (hkl5.mono HW3.out.size)⟩
      · have h3' : (100 : Int) < (ps.length : Int) := by omega
        rw [h2] at HFW
        clear h2 h3 hlw
        go_enter Try.func3, Try.ntmps3
        go_wp2_with (first
          | (go_at_call 5; refine HFW.out.mono ?_; rintro e w' ⟨rfl, rfl⟩)
          | (go_at_call 6; refine (lives51 _).mono ?_; rintro e w2 ⟨rfl, hB2⟩))
        go_ret
        exact ⟨rfl, hB2⟩
    · have h2' : fewW l = false := by simpa using h2
      rw [h2'] at HFW
      clear h2 h2' hlw
      go_enter Try.func3, Try.ntmps3
      go_wp2_with (first
        | (go_at_call 5; refine HFW.out.mono ?_; rintro e w' ⟨rfl, rfl⟩)
        | (go_at_call 6; refine (lives51 _).mono ?_; rintro e w2 ⟨rfl, hB2⟩))
      go_ret
      exact ⟨rfl, hB2⟩
  · have h1' : (12000 : Int) < (b.length : Int) := by omega
    clear h1 hlw
    go_enter Try.func3, Try.ntmps3
    go_wp2_with (go_at_call 6; refine (lives51 _).mono ?_; rintro e w2 ⟨rfl, hB2⟩)
    go_ret
    exact ⟨rfl, hB2⟩
end Go.Proofs.Ytlogabbnnbcokaa
