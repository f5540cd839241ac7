/- The reference's Over (scantlingref52). Condition: the slices are within the reach. -/
import Derived.Test.YtecnkeakmedgnaaWRef52b
import Derived.Deep.QuietTactic
import Derived.BigQuiet
namespace Go.Proofs.Ytecnkeakmedgnaa
open Go.RowKit Go.Shelf
attribute [local go_sem] Oper.semAt_some

/-- Behind i of the one and k of the other. -/
structure OvAt (a b : List Mp) (i k : Nat) (o : List Mp) : Prop where
  len : o.length ≤ i + k
  eq : o ++ mergeO (a.drop i) (b.drop k) = mergeO a b
theorem OvAt.low {a b : List Mp} {i k : Nat} {o : List Mp} (h : OvAt a b i k o) (hi : i < a.length) (hk : b.length ≤ k ∨ (k < b.length ∧ (nth mp0 a i).v < (nth mp0 b k).v)) : OvAt a b (i + 1) k (o ++ [nth mp0 a i]) := by
  refine ⟨by have := h.len; simp; omega, ?_⟩
  rw [← h.eq, drop_nth mp0 a i hi, List.append_assoc]
  congr 1
  rcases hk with h1 | ⟨h1, h2⟩
  · rw [List.drop_of_length_le h1, mergeO_nil, mergeO_nil]; rfl
  · rw [drop_nth mp0 b k h1, mergeO_lt h2]; rfl
theorem OvAt.both {a b : List Mp} {i k : Nat} {o : List Mp} (h : OvAt a b i k o) (hi : i < a.length) (hk : k < b.length) (he : (nth mp0 a i).v = (nth mp0 b k).v) : OvAt a b (i + 1) (k + 1) (o ++ [nth mp0 b k]) := by
  refine ⟨by have := h.len; simp; omega, ?_⟩
  rw [← h.eq, drop_nth mp0 a i hi, drop_nth mp0 b k hk, mergeO_eq he, List.append_assoc]; rfl
theorem OvAt.high {a b : List Mp} {i k : Nat} {o : List Mp} (h : OvAt a b i k o) (hk : k < b.length) (hi : a.length ≤ i ∨ (i < a.length ∧ (nth mp0 b k).v < (nth mp0 a i).v)) : OvAt a b i (k + 1) (o ++ [nth mp0 b k]) := by
  refine ⟨by have := h.len; simp; omega, ?_⟩
  rw [← h.eq, drop_nth mp0 b k hk, List.append_assoc]
  congr 1
  rcases hi with h1 | ⟨h1, h2⟩
  · rw [List.drop_of_length_le h1, nil_mergeO, nil_mergeO]; rfl
  · rw [drop_nth mp0 a i h1, mergeO_gt h2]; rfl
theorem OvAt.done {a b : List Mp} {i k : Nat} {o : List Mp} (h : OvAt a b i k o) (hi : a.length ≤ i) (hk : b.length ≤ k) : o = mergeO a b := by
  rw [← h.eq, List.drop_of_length_le hi, List.drop_of_length_le hk, nil_mergeO, List.append_nil]
set_option maxRecDepth 100000 in
set_option maxHeartbeats 3200000 in
theorem rover_any (w : World) (S : Nat → Prop) (va vb : Value) (a b : List Mp) (hS : ∀ b, S b → b < w.heap.size) (ha : IsMaps w S va a) (hb : IsMaps w S vb b) (hal : a.length ≤ 1000000) (hbl : b.length ≤ 1000000) :
    Calls Try.prog 7 #[va, vb] w (ResIs (chkAll [a, b]) (overR a b) w) := by
  have HCK := Lib.hid (rbad_any w S va vb a b hS ha hb (by omega) (by omega))
  by_cases h0 : chkAll [a, b] = 0
  · have e : overR a b = mergeO a b := by unfold overR; rw [if_pos h0]
    obtain ⟨A, c, rfl, hc, hr⟩ := ha
    obtain ⟨Ab, cb, rfl, hcb, hrb⟩ := hb
    have HC := Lib.hid (fun hp => maps_cells hr hp)
    have HCB := Lib.hid (fun hp => maps_cells hrb hp)
    rw [h0, e]
    rw [h0] at HCK
    clear e h0 hr hrb
    have HO0 := Lib.hid (show OvAt a b 0 0 [] from ⟨by simp, rfl⟩)
    have HDN := Lib.hid (fun i k o (h : OvAt a b i k o) => h.done)
    obtain ⟨res, hres⟩ : ∃ r, r = mergeO a b := ⟨_, rfl⟩
    rw [← hres] at HDN ⊢
    clear hres
    generalize hnn : a.length = na at *
    generalize hmm : b.length = nb at *
    have HN := Lib.hid hnn
    have HM := Lib.hid hmm
    clear hnn hmm
    go_enter Try.func7, Try.ntmps7
    go_wp2_with (go_at_call 23; refine HCK.out.mono ?_; rintro e w1 ⟨rfl, hB1⟩)
    go_loopw [7, 8, 9] (fun o i k wr => ∃ (p q : Nat) (l : List Mp), i = .int .i64 p ∧ k = .int .i64 q ∧ p ≤ na ∧ q ≤ nb ∧ Hid (OvAt a b p q l) ∧ wr.ownsRow w.heap.size 41 3 o l.length (flats Mp.enc l) ∧ Below w.heap.size w wr) (fun _ i k _ => (na - (intOf i).toNat) + (nb - (intOf k).toNat))
    case atStart => exact ⟨0, 0, [], rfl, rfl, by omega, by omega, HO0, World.ownsRow_nil _ _ _ _, hB1⟩
    case round =>
      obtain ⟨p, q, l, rfl, rfl, hp, hq, HO, hrow, hB⟩ := hrel
      have hz := hB.size
      have hll := HO.out.len
      obtain ⟨Ao, co, rfl, _⟩ := own_form0 hrow
      have hrow' := hrow
      generalize hrl : l.length = rl at *
      have HRL := Lib.hid hrl
      clear hrl
      by_cases h1 : q < nb
      · have h1i : ((q : Int) == (nb : Int)) = false := by simp; omega
        have h1d : (q : Int) < (nb : Int) := by omega
        obtain ⟨gb, offb, rfl, hbSb, hclb⟩ := HCB.out (by omega)
        have hb0b := hS gb hbSb
        obtain ⟨d0, d1, d2⟩ := hclb q (by omega)
        rw [← hB.cell (p := ⟨gb, offb + q * 3, none⟩) hb0b] at d0
        rw [← hB.cell (p := ⟨gb, offb + q * 3 + 1, none⟩) hb0b] at d1
        rw [← hB.cell (p := ⟨gb, offb + q * 3 + 2, none⟩) hb0b] at d2
        have hbwb : gb < wr.heap.size := by omega
        clear hclb
        obtain ⟨y, hy⟩ : ∃ y, y = nth mp0 b q := ⟨_, rfl⟩
        rw [← hy] at d0 d1 d2
        have HY := Lib.hid hy
        clear hy
        by_cases h2 : p < na
        · have h2d : decide ((p : Int) < (na : Int)) = true := by simp; omega
          obtain ⟨g, off, rfl, hbS, hcl⟩ := HC.out (by omega)
          have hb0 := hS g hbS
          obtain ⟨c0, c1, c2⟩ := hcl p (by omega)
          rw [← hB.cell (p := ⟨g, off + p * 3, none⟩) hb0] at c0
          rw [← hB.cell (p := ⟨g, off + p * 3 + 1, none⟩) hb0] at c1
          rw [← hB.cell (p := ⟨g, off + p * 3 + 2, none⟩) hb0] at c2
          have hbw : g < wr.heap.size := by omega
          clear hcl
          obtain ⟨x, hx⟩ : ∃ x, x = nth mp0 a p := ⟨_, rfl⟩
          rw [← hx] at c0 c1 c2
          have HX := Lib.hid hx
          clear hx
          have hpi : (p : Int) < (na : Int) := by omega
          by_cases h3 : x.v < y.v
          · have h3d : decide (x.v < y.v) = true := by simpa using h3
            have HN1 := Lib.hid (show OvAt a b (p + 1) q (l ++ [x]) by rw [HX.out]; exact HO.out.low (by rw [HN.out]; exact h2) (.inr ⟨by rw [HM.out]; exact h1, by rw [← HX.out, ← HY.out]; exact h3⟩))
            go_wp2_with fail
            go_quiet (fail)
            go_wp2_with (at_builtin; refine wpList_append_one elMp rfl _ _ rfl w.heap.size (.slice Ao rl co) rl l x rfl hrow rfl (by omega) hz ?_; intro A6 cap6 w6 hown hg)
            go_roundw
            case rel => exact ⟨p + 1, q, l ++ [x], by go_num, rfl, by omega, by omega, HN1, by rw [List.length_append, HRL.out]; exact hown, hB.grown (grown_drewN hg) hz (fun i hi => (hrow'.lt i hi).1)⟩
            case measure => simp [intOf]; omega
          · have h3d : decide (x.v < y.v) = false := by simpa using h3
            by_cases h4 : x.v = y.v
            · have h4d : (x.v == y.v) = true := by simpa using h4
              have HN1 := Lib.hid (show OvAt a b (p + 1) (q + 1) (l ++ [y]) by rw [HY.out]; exact HO.out.both (by rw [HN.out]; exact h2) (by rw [HM.out]; exact h1) (by rw [← HX.out, ← HY.out]; exact h4))
              clear h4
              go_wp2_with fail
              go_quiet (fail)
              go_wp2_with fail
              go_quiet (fail)
              go_wp2_with (at_builtin; refine wpList_append_one elMp rfl _ _ rfl w.heap.size (.slice Ao rl co) rl l y rfl hrow rfl (by omega) hz ?_; intro A6 cap6 w6 hown hg)
              go_roundw
              case rel => exact ⟨p + 1, q + 1, l ++ [y], by go_num, by go_num, by omega, by omega, HN1, by rw [List.length_append, HRL.out]; exact hown, hB.grown (grown_drewN hg) hz (fun i hi => (hrow'.lt i hi).1)⟩
              case measure => simp [intOf]; omega
            · have h4d : (x.v == y.v) = false := by simpa using h4
              have HN1 := Lib.hid (show OvAt a b p (q + 1) (l ++ [y]) by rw [HY.out]; exact HO.out.high (by rw [HM.out]; exact h1) (.inr ⟨by rw [HN.out]; exact h2, by rw [← HX.out, ← HY.out]; omega⟩))
              go_wp2_with fail
              go_quiet (fail)
              go_wp2_with fail
              go_quiet (fail)
              go_wp2_with (at_builtin; refine wpList_append_one elMp rfl _ _ rfl w.heap.size (.slice Ao rl co) rl l y rfl hrow rfl (by omega) hz ?_; intro A6 cap6 w6 hown hg)
              go_roundw
              case rel => exact ⟨p, q + 1, l ++ [y], rfl, by go_num, by omega, by omega, HN1, by rw [List.length_append, HRL.out]; exact hown, hB.grown (grown_drewN hg) hz (fun i hi => (hrow'.lt i hi).1)⟩
              case measure => simp [intOf]; omega
        · have h2d : decide ((p : Int) < (na : Int)) = false := by simp; omega
          have HN1 := Lib.hid (show OvAt a b p (q + 1) (l ++ [y]) by rw [HY.out]; exact HO.out.high (by rw [HM.out]; exact h1) (.inl (by rw [HN.out]; omega)))
          go_wp2_with fail
          go_quiet (fail)
          go_wp2_with fail
          go_quiet (fail)
          go_wp2_with (at_builtin; refine wpList_append_one elMp rfl _ _ rfl w.heap.size (.slice Ao rl co) rl l y rfl hrow rfl (by omega) hz ?_; intro A6 cap6 w6 hown hg)
          go_roundw
          case rel => exact ⟨p, q + 1, l ++ [y], rfl, by go_num, by omega, by omega, HN1, by rw [List.length_append, HRL.out]; exact hown, hB.grown (grown_drewN hg) hz (fun i hi => (hrow'.lt i hi).1)⟩
          case measure => simp [intOf]; omega
      · obtain rfl : q = nb := by omega
        have h1i : ((q : Int) == (q : Int)) = true := by simp
        by_cases h2 : p < na
        · have h2d : decide ((p : Int) < (na : Int)) = true := by simp; omega
          obtain ⟨g, off, rfl, hbS, hcl⟩ := HC.out (by omega)
          have hb0 := hS g hbS
          obtain ⟨c0, c1, c2⟩ := hcl p (by omega)
          rw [← hB.cell (p := ⟨g, off + p * 3, none⟩) hb0] at c0
          rw [← hB.cell (p := ⟨g, off + p * 3 + 1, none⟩) hb0] at c1
          rw [← hB.cell (p := ⟨g, off + p * 3 + 2, none⟩) hb0] at c2
          have hbw : g < wr.heap.size := by omega
          clear hcl
          obtain ⟨x, hx⟩ : ∃ x, x = nth mp0 a p := ⟨_, rfl⟩
          rw [← hx] at c0 c1 c2
          have HX := Lib.hid hx
          clear hx
          have hpi : (p : Int) < (na : Int) := by omega
          have HN1 := Lib.hid (show OvAt a b (p + 1) q (l ++ [x]) by rw [HX.out]; exact HO.out.low (by rw [HN.out]; exact h2) (.inl (by rw [HM.out]; omega)))
          go_wp2_with fail
          go_quiet (fail)
          go_wp2_with (at_builtin; refine wpList_append_one elMp rfl _ _ rfl w.heap.size (.slice Ao rl co) rl l x rfl hrow rfl (by omega) hz ?_; intro A6 cap6 w6 hown hg)
          go_roundw
          case rel => exact ⟨p + 1, q, l ++ [x], by go_num, rfl, by omega, by omega, HN1, by rw [List.length_append, HRL.out]; exact hown, hB.grown (grown_drewN hg) hz (fun i hi => (hrow'.lt i hi).1)⟩
          case measure => simp [intOf]; omega
        · have h2d : decide ((p : Int) < (na : Int)) = false := by simp; omega
          have h1d : decide ((q : Int) < (q : Int)) = false := by simp
          obtain rfl : p = na := by omega
          have HD := Lib.hid (HDN.out p q l HO.out (Nat.le_refl _) (Nat.le_refl _))
          have HROW := Lib.hid hrow
          clear hrow hrow'
          go_wp2_with fail
          go_ret2
          rw [← HD.out]
          exact ⟨Ao, _, co, HRL.out.symm, rfl, HROW.out, hB⟩
  · have e : overR a b = [] := by unfold overR; rw [if_neg h0]
    rw [e]
    have hne : (chkAll [a, b] != 0) = true := by simpa using h0
    clear e h0 ha hb
    generalize chkAll [a, b] = r at *
    go_enter Try.func7, Try.ntmps7
    go_wp2_with (go_at_call 23; refine HCK.out.mono ?_; rintro e w1 ⟨rfl, hB1⟩)
    go_ret2
    exact resNil r hB1
end Go.Proofs.Ytecnkeakmedgnaa
