/- scantlinglaw52.MergeLists says yes of every input. Condition: the numbers fit into Go's int, and no slice is longer than the reach. -/
import Derived.Test.YtecnkeakmedgnaaWMLives
namespace Go.Proofs.Ytecnkeakmedgnaa
open Go.RowKit Go.Shelf
attribute [local go_sem] Oper.semAt_some

theorem IsMaps.up {w w' : World} {v : Value} {l : List Mp} (h : IsMaps w (Lt w.heap.size) v l) (hB : Below w.heap.size w w') : IsMaps w' (Lt w'.heap.size) v l := h.keep rmp_stable (fun _ hb => Nat.lt_of_lt_of_le hb hB.size) (keep_below hB (fun _ h => h))
set_option maxRecDepth 100000 in
set_option maxHeartbeats 6400000 in
theorem mergeLists_walk (w : World) (va vb : Value) (a b : List Mp) (f t : Int) (ha : IsMaps w (Lt w.heap.size) va a) (hb : IsMaps w (Lt w.heap.size) vb b) (hf : In64 f) :
    Calls Try.prog 3 #[va, vb, .int .i64 f, .int .i64 t] w fun e w' => e = .returned (.bool true) ∧ Below w.heap.size w w' := by
  obtain ⟨A, ca, rfl, hca, hra⟩ := ha
  have ha : IsMaps w (Lt w.heap.size) (.slice A a.length ca) a := ⟨A, ca, rfl, hca, hra⟩
  obtain ⟨B, cb, rfl, hcb, hrb⟩ := hb
  have hb : IsMaps w (Lt w.heap.size) (.slice B b.length cb) b := ⟨B, cb, rfl, hcb, hrb⟩
  by_cases h1 : a.length ≤ 1000
  · have h1d : decide ((a.length : Int) > 1000) = false := by simp; omega
    by_cases h2 : b.length ≤ 1000
    · have h2d : decide ((b.length : Int) > 1000) = false := by simp; omega
      have HOP := Lib.hid (fun w' (hB : Below w.heap.size w w') => over_any w' (Lt w'.heap.size) _ _ a b (fun _ h => h) (ha.up hB) (hb.up hB) (by omega) (by omega))
      have HOR := Lib.hid (fun w' (hB : Below w.heap.size w w') => rover_any w' (Lt w'.heap.size) _ _ a b (fun _ h => h) (ha.up hB) (hb.up hB) (by omega) (by omega))
      have HMP := Lib.hid (fun w' (hB : Below w.heap.size w w') => minus_any w' (Lt w'.heap.size) _ _ a b (fun _ h => h) (ha.up hB) (hb.up hB) (by omega) (by omega))
      have HMR := Lib.hid (fun w' (hB : Below w.heap.size w w') => rminus_any w' (Lt w'.heap.size) _ _ a b (fun _ h => h) (ha.up hB) (hb.up hB) (by omega) (by omega))
      have HCP := Lib.hid (fun w' (hB : Below w.heap.size w w') => cut_any w' (Lt w'.heap.size) _ a f t (fun _ h => h) (ha.up hB) (by omega))
      have HCR := Lib.hid (fun w' (hB : Below w.heap.size w w') => rcut_any w' (Lt w'.heap.size) _ a f t (fun _ h => h) (ha.up hB) (by omega))
      have HVP := Lib.hid (fun w' (hB : Below w.heap.size w w') => move_any w' (Lt w'.heap.size) _ a f (fun _ h => h) (ha.up hB) (by omega) (fun _ => hf))
      have HVR := Lib.hid (fun w' (hB : Below w.heap.size w w') => rmove_any w' (Lt w'.heap.size) _ a f (fun _ h => h) (ha.up hB) (by omega) hf)
      have HSA := Lib.hid (fun w' v1 v2 l (h1 : IsMaps w' (Lt w'.heap.size) v1 l) (h2 : IsMaps w' (Lt w'.heap.size) v2 l) (hl : l.length ≤ 3000) => (show Calls Try.prog 10 #[v1, v2] w' fun e w'' => e = .returned (.bool true) ∧ Below w'.heap.size w' w'' from (rsameMaps_any w' _ _ _ _ l l h1 h2 (by omega)).mono fun e w'' ⟨he, m, hm⟩ => ⟨by rw [he]; simp, by rw [hm]; exact below_drewN (Below.refl _ _) m⟩))
      have hlo : (overR a b).length ≤ 3000 := by
        unfold overR
        split
        · rename_i h0
          have hp : (mergeO a b).length ≤ a.length + b.length := mergeO_len _ a b (Nat.le_refl _)
          omega
        · simp
      have hlm : (minusR a b).length ≤ 3000 := by
        unfold minusR
        split
        · have : (minusF a b).length ≤ a.length := List.length_filter_le _ _
          omega
        · simp
      have hlc : (cutR a f t).length ≤ 3000 := by
        unfold cutR
        split
        · have : (cutF a f t).length ≤ a.length := List.length_filter_le _ _
          omega
        · simp
      have hlv : (moveR a f).length ≤ 3000 := by
        unfold moveR
        split
        · split
          · unfold moveL; simp; omega
          · simp
        · simp
      unfold ResIs at HOP HOR HMP HMR HCP HCR HVP HVR
      clear ha hb hra hrb hf hca hcb
      generalize overR a b = lo at *
      generalize minusR a b = lm at *
      generalize cutR a f t = lc at *
      generalize moveR a f = lv at *
      generalize chkAll [a, b] = r1 at *
      generalize chk a = r2 at *
      generalize moveE a f = r3 at *
      generalize a.length = na at *
      generalize b.length = nb at *
      have hk0 := Below.refl w.heap.size w
      have HLO := Lib.hid hlo
      have HLM := Lib.hid hlm
      have HLC := Lib.hid hlc
      have HLV := Lib.hid hlv
      clear hlo hlm hlc hlv
      go_enter Try.func3, Try.ntmps3
      go_wp2_with (first
        | (go_at_call 6; refine (HOP.out _ hk0).mono ?_; rintro e w1 ⟨A1, n1, c1, hn1, rfl, hown1, hB1⟩; have hm1 := own_maps hown1; have hk1 := hk0.trans (hB1.mono hk0.size); clear hn1 hown1 hB1)
        | (go_at_call 7; refine (HOR.out _ hk1).mono ?_; rintro e w2 ⟨A2, n2, c2, hn2, rfl, hown2, hB2⟩; have hm2 := own_maps hown2; have hk2 := hk1.trans (hB2.mono hk1.size); have hm1 := hm1.up hB2; clear hn2 hown2 hB2)
        | (go_at_call 8; refine (HMP.out _ hk2).mono ?_; rintro e w3 ⟨A3, n3, c3, hn3, rfl, hown3, hB3⟩; have hm3 := own_maps hown3; have hk3 := hk2.trans (hB3.mono hk2.size); have hm1 := hm1.up hB3; have hm2 := hm2.up hB3; clear hn3 hown3 hB3)
        | (go_at_call 9; refine (HMR.out _ hk3).mono ?_; rintro e w4 ⟨A4, n4, c4, hn4, rfl, hown4, hB4⟩; have hm4 := own_maps hown4; have hk4 := hk3.trans (hB4.mono hk3.size); have hm1 := hm1.up hB4; have hm2 := hm2.up hB4; have hm3 := hm3.up hB4; clear hn4 hown4 hB4; have tok1 : True := trivial)
        | (go_at_call 10; have _ := tok1; refine (HSA.out _ _ _ lo hm1 hm2 HLO.out).mono ?_; rintro e w5 ⟨rfl, hB5⟩; have hk5 := hk4.trans (hB5.mono hk4.size); have hm3 := hm3.up hB5; have hm4 := hm4.up hB5; clear tok1 hB5; have tok2 : True := trivial)
        | (go_at_call 10; have _ := tok2; refine (HSA.out _ _ _ lm hm3 hm4 HLM.out).mono ?_; rintro e w6 ⟨rfl, hB6⟩; have hk6 := hk5.trans (hB6.mono hk5.size); clear tok2 hB6)
        | (go_at_call 11; refine (HCP.out _ hk6).mono ?_; rintro e w7 ⟨A7, n7, c7, hn7, rfl, hown7, hB7⟩; have hm7 := own_maps hown7; have hk7 := hk6.trans (hB7.mono hk6.size); clear hn7 hown7 hB7)
        | (go_at_call 12; refine (HCR.out _ hk7).mono ?_; rintro e w8 ⟨A8, n8, c8, hn8, rfl, hown8, hB8⟩; have hm8 := own_maps hown8; have hk8 := hk7.trans (hB8.mono hk7.size); have hm7 := hm7.up hB8; clear hn8 hown8 hB8)
        | (go_at_call 13; refine (HVP.out _ hk8).mono ?_; rintro e w9 ⟨A9, n9, c9, hn9, rfl, hown9, hB9⟩; have hm9 := own_maps hown9; have hk9 := hk8.trans (hB9.mono hk8.size); have hm7 := hm7.up hB9; have hm8 := hm8.up hB9; clear hn9 hown9 hB9)
        | (go_at_call 14; refine (HVR.out _ hk9).mono ?_; rintro e wa ⟨Aa, na', ca', hna, rfl, howna, hBa⟩; have hma := own_maps howna; have hka := hk9.trans (hBa.mono hk9.size); have hm7 := hm7.up hBa; have hm8 := hm8.up hBa; have hm9 := hm9.up hBa; clear hna howna hBa; have tok3 : True := trivial)
        | (go_at_call 10; have _ := tok3; refine (HSA.out _ _ _ lc hm7 hm8 HLC.out).mono ?_; rintro e wb ⟨rfl, hBb⟩; have hkb := hka.trans (hBb.mono hka.size); have hm9 := hm9.up hBb; have hma := hma.up hBb; clear tok3 hBb; have tok4 : True := trivial)
        | (go_at_call 10; have _ := tok4; refine (HSA.out _ _ _ lv hm9 hma HLV.out).mono ?_; rintro e wc ⟨rfl, hBc⟩; have hkc := hkb.trans (hBc.mono hkb.size); clear tok4 hBc)
        | (go_at_call 5; refine (lives52 _).mono ?_; rintro e wd ⟨rfl, hBd⟩))
      go_ret
      exact ⟨rfl, hkc.trans (hBd.mono hkc.size)⟩
    · have h2d : decide ((b.length : Int) > 1000) = true := by simp; omega
      clear ha hb hra hrb
      go_enter Try.func3, Try.ntmps3
      go_wp2_with (go_at_call 5; refine (lives52 _).mono ?_; rintro e w2 ⟨rfl, hB2⟩)
      go_ret
      exact ⟨rfl, hB2⟩
  · have h1d : decide ((a.length : Int) > 1000) = true := by simp; omega
    clear ha hb hra hrb
    go_enter Try.func3, Try.ntmps3
    go_wp2_with (go_at_call 5; refine (lives52 _).mono ?_; rintro e w2 ⟨rfl, hB2⟩)
    go_ret
    exact ⟨rfl, hB2⟩
end Go.Proofs.Ytecnkeakmedgnaa
