/- model.blocks: the device of an op, or why its virtual blocks may not be. Condition: the pool may be, and lies in memory of the call's own. -/
import Derived.Test.YtcdfbpdejbpgjaaGreatWModel5
import Derived.Test.YtcdfbpdejbpgjaaGreatWDelG
import Derived.IntWalk
namespace Go.Proofs.YtcdfbpdejbpgjaaGreat
open Go.RowKit
attribute [local go_sem] Oper.semAt_some

set_option maxRecDepth 100000 in
set_option maxHeartbeats 3200000 in
theorem blocks_bad (w : World) (base g : Nat) (p : Pool) (o : Mop) (h : OwnP w base g p) (hpc : poolChk p = 0) (hbad : blkE p o ≠ 0) :
    Calls Tryz.prog 76 #[.pointer (some ⟨g, 0, none⟩), mopV o] w fun e w' => e = .returned (.tuple #[.pointer none, .int .i64 (blkE p o)]) ∧ Below w.heap.size w w' := by
  obtain ⟨A, c, M, h1, h2, h3, h4⟩ := h
  have hwb : Below w.heap.size w (w.alloc (.cells #[.int .i64 o.kind, .int .i64 o.dev, .int .i64 o.arg, .int .i64 o.n] 44)) := (Below.refl _ _).alloc (Nat.le_refl _) _
  have HMB := Lib.hid (fun w' (hB : Below (w.alloc (.cells #[.int .i64 o.kind, .int .i64 o.dev, .int .i64 o.arg, .int .i64 o.n] 44)).heap.size (w.alloc (.cells #[.int .i64 o.kind, .int .i64 o.dev, .int .i64 o.arg, .int .i64 o.n] 44)) w') => (MBox.new w o).below hB (MBox.new w o).lt)
  have HPL := Lib.hid (fun w' (hB : Below w.heap.size w w') => place_any w' base g p o.dev ⟨A, c, M, h1.below hB h1.lt, h2, h3.below hB, h4⟩ hpc)
  clear h1 h3 h4 h2
  unfold mopV
  cases hbb : dhas p o.dev with
  | false =>
    have he : blkE p o = 18 := by unfold blkE; rw [if_pos hbb]
    rw [he]
    rw [hbb] at HPL
    clear hbad he hbb
    go_enter Tryz.func76, Tryz.ntmps76
    go_wp2_with (go_at_call 74; refine (HPL.out _ hwb).mono ?_; rintro e w3 ⟨rfl, hB3⟩; have hk3 := hwb.trans (hB3.mono hwb.size))
    go_ret2
    exact ⟨rfl, hk3⟩
  | true =>
    have hlim : o.n < 1 ∨ 16384 < o.n ∨ o.arg < 0 ∨ 281474976710655 < o.arg ∨ 281474976710656 - o.arg < o.n := by
      unfold blkE at hbad
      rw [if_neg (by rw [hbb]; simp)] at hbad
      exact Classical.byContradiction fun hn => hbad (if_neg hn)
    have he : blkE p o = 2 := by unfold blkE; rw [if_neg (by rw [hbb]; simp), if_pos hlim]
    rw [he]
    rw [hbb] at HPL
    clear hbad he hbb
    have hc5 : decide (o.n < 1) = true ∨ (decide (o.n < 1) = false ∧ decide (16384 < o.n) = true) ∨ (decide (o.n < 1) = false ∧ decide (16384 < o.n) = false ∧ decide (o.arg < 0) = true) ∨ (decide (o.n < 1) = false ∧ decide (16384 < o.n) = false ∧ decide (o.arg < 0) = false ∧ decide (281474976710655 < o.arg) = true) ∨ (decide (o.n < 1) = false ∧ decide (16384 < o.n) = false ∧ decide (o.arg < 0) = false ∧ decide (281474976710655 < o.arg) = false ∧ decide (281474976710656 - o.arg < o.n) = true ∧ IntKind.i64.wrap (281474976710656 - o.arg) = 281474976710656 - o.arg) := by
      simp only [decide_eq_true_eq, decide_eq_false_iff_not]
      rcases hlim with h | h | h | h | h
      · exact .inl h
      · by_cases h1 : o.n < 1
        · exact .inl h1
        · exact .inr (.inl ⟨h1, h⟩)
      · by_cases h1 : o.n < 1
        · exact .inl h1
        · by_cases h2 : 16384 < o.n
          · exact .inr (.inl ⟨h1, h2⟩)
          · exact .inr (.inr (.inl ⟨h1, h2, h⟩))
      · by_cases h1 : o.n < 1
        · exact .inl h1
        · by_cases h2 : 16384 < o.n
          · exact .inr (.inl ⟨h1, h2⟩)
          · exact .inr (.inr (.inr (.inl ⟨h1, h2, by omega, h⟩)))
      · by_cases h1 : o.n < 1
        · exact .inl h1
        · by_cases h2 : 16384 < o.n
          · exact .inr (.inl ⟨h1, h2⟩)
          · by_cases h3 : o.arg < 0
            · exact .inr (.inr (.inl ⟨h1, h2, h3⟩))
            · by_cases h4 : 281474976710655 < o.arg
              · exact .inr (.inr (.inr (.inl ⟨h1, h2, h3, h4⟩)))
              · exact .inr (.inr (.inr (.inr ⟨h1, h2, h3, h4, h, IntWalk.i64_in _ (by omega)⟩)))
    clear hlim
    rcases hc5 with a1 | ⟨a1, a2⟩ | ⟨a1, a2, a3⟩ | ⟨a1, a2, a3, a4⟩ | ⟨a1, a2, a3, a4, a5, a6⟩
    all_goals
      go_enter Tryz.func76, Tryz.ntmps76
      go_wp2_with (go_at_call 74; refine (HPL.out _ hwb).mono ?_; rintro e w3 ⟨rfl, hB3⟩; have hk3 := hwb.trans (hB3.mono hwb.size); obtain ⟨y0, y1, y2, y3⟩ := (HMB.out _ hB3).cells)
      go_ret2
      exact ⟨rfl, hk3⟩
/-- The device of the op, by its address. -/
theorem blocks_ok (w : World) (base g g2 c : Nat) (p : Pool) (o : Mop) (M : Nat → Value) (h1 : PBox w g p (some ⟨g2, 0, none⟩) p.devs.length c) (h2 : base ≤ g) (h3 : OwnDevs w base (.slice (some ⟨g2, 0, none⟩) p.devs.length c) p.devs M) (h4 : Far (.slice (some ⟨g2, 0, none⟩) p.devs.length c) p.devs M g) (hpc : poolChk p = 0) (hgood : blkE p o = 0) :
    Calls Tryz.prog 76 #[.pointer (some ⟨g, 0, none⟩), mopV o] w fun e w' => e = .returned (.tuple #[.pointer (some ⟨g2, dpos p o.dev * 5, none⟩), .int .i64 0]) ∧ Below w.heap.size w w' := by
  have hwb : Below w.heap.size w (w.alloc (.cells #[.int .i64 o.kind, .int .i64 o.dev, .int .i64 o.arg, .int .i64 o.n] 44)) := (Below.refl _ _).alloc (Nat.le_refl _) _
  have HMB := Lib.hid (fun w' (hB : Below (w.alloc (.cells #[.int .i64 o.kind, .int .i64 o.dev, .int .i64 o.arg, .int .i64 o.n] 44)).heap.size (w.alloc (.cells #[.int .i64 o.kind, .int .i64 o.dev, .int .i64 o.arg, .int .i64 o.n] 44)) w') => (MBox.new w o).below hB (MBox.new w o).lt)
  have HPL := Lib.hid (fun w' (hB : Below w.heap.size w w') => place_any w' base g p o.dev ⟨_, c, M, h1.below hB h1.lt, h2, h3.below hB, h4⟩ hpc)
  have HP := Lib.hid (fun w' (hB : Below w.heap.size w w') => (h1.below hB h1.lt).cells)
  have hbb : dhas p o.dev = true := by
    cases hb : dhas p o.dev with
    | true => rfl
    | false => unfold blkE at hgood; rw [if_pos hb] at hgood; cases hgood
  have hlim : ¬ (o.n < 1 ∨ 16384 < o.n ∨ o.arg < 0 ∨ 281474976710655 < o.arg ∨ 281474976710656 - o.arg < o.n) := fun h => by
    unfold blkE at hgood
    rw [if_neg (by rw [hbb]; simp), if_pos h] at hgood
    cases hgood
  obtain ⟨hk, _⟩ := hasK_at (d := dev0) (v := o.dev) (incK_devs hpc) hbb
  have hk : dpos p o.dev < p.devs.length := hk
  have hnn := pool_len hpc
  rw [hbb] at HPL
  have a1 : decide (o.n < 1) = false := by simp only [decide_eq_false_iff_not]; omega
  have a2 : decide (16384 < o.n) = false := by simp only [decide_eq_false_iff_not]; omega
  have a3 : decide (o.arg < 0) = false := by simp only [decide_eq_false_iff_not]; omega
  have a4 : decide (281474976710655 < o.arg) = false := by simp only [decide_eq_false_iff_not]; omega
  have a5 : decide (281474976710656 - o.arg < o.n) = false := by simp only [decide_eq_false_iff_not]; omega
  have a6 : IntKind.i64.wrap (281474976710656 - o.arg) = 281474976710656 - o.arg := IntWalk.i64_in _ (by omega)
  clear h1 h3 h4 h2 hgood hbb hlim
  generalize dpos p o.dev = k at *
  generalize p.devs.length = n at *
  have hki : (k : Int) < (n : Int) := by omega
  unfold mopV
  go_enter Tryz.func76, Tryz.ntmps76
  go_wp2_with (go_at_call 74; refine (HPL.out _ hwb).mono ?_; rintro e w3 ⟨rfl, hB3⟩; have hk3 := hwb.trans (hB3.mono hwb.size); obtain ⟨y0, y1, y2, y3⟩ := (HMB.out _ hB3).cells; obtain ⟨x0, x1, x2, x3, x4⟩ := HP.out _ hk3)
  go_ret2
  exact ⟨rfl, hk3⟩
end Go.Proofs.YtcdfbpdejbpgjaaGreat
