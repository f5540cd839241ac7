/- scantlingref38.Free: the data blocks that nothing maps. Condition: the numbers fit into Go's int, and no slice is longer than the reach. -/
import Derived.Test.YtjapokplhfnkfaaWFree
namespace Go.Proofs.Ytjapokplhfnkfaa
open Go.RowKit

theorem refsRes_nonneg (p : Pool) (k : Nat) : 0 ≤ nth 0 (refsRes p) k := by
  unfold refsRes
  by_cases h : poolChk p = 0
  · rw [if_pos h]; unfold refsOf; exact (counts_bound p.data.toNat (pairs p.devs) k).1
  · rw [if_neg h]; simp [nth]
set_option maxRecDepth 100000 in
set_option maxHeartbeats 3200000 in
theorem rfree_any (w : World) (S : Nat → Prop) (v : Value) (p : Pool) (hS : ∀ b, S b → b < w.heap.size) (h : IsPool w S v p) (hok : p.ok) :
    Calls Try.prog 11 #[v] w fun e w' => ∃ v', e = .returned v' ∧ IsSps w' (Btw w.heap.size w'.heap.size) v' (frOf (refsRes p)) ∧ Below w.heap.size w w' := by
  have h0 := h
  obtain ⟨A, c, rfl, hc, hr⟩ := h
  have hB1 : Below w.heap.size w (w.alloc (poolBox p A p.devs.length c)) := (Below.refl _ _).alloc (Nat.le_refl _) _
  have hrf := rrefs_any (w.alloc (poolBox p A p.devs.length c)) S _ p (fun b hb => by have := hS b hb; simp; omega) (h0.below hB1 hS) hok
  have HRF := Lib.hid hrf
  have hll := refsRes_length (p := p)
  have HNN := Lib.hid (refsRes_nonneg p)
  clear hrf hr h0
  generalize refsRes p = l at *
  generalize hln : l.length = n at *
  have HLN := Lib.hid hln
  clear hln
  dsimp only [poolBox] at hB1 HRF
  go_enter Try.func11, Try.ntmps11
  go_wp2_with (go_at_call 14; refine HRF.out.mono ?_; rintro e w2 ⟨v2, rfl, ⟨A2, c2, rfl, hc2, hr2⟩, hB2⟩; rw [HLN.out] at hc2 ⊢; have hk2 := hB1.trans (hB2.mono (by simp)))
  go_loopw [4, 5] (fun t i wr => ∃ (k : Nat) (out : List Sp) (m : Nat), k ≤ n ∧ i = .int .i64 k ∧ m = out.length ∧ frOf (l.take k) = out ∧ m ≤ k ∧ (k < n → nth 0 l k = 0 → out.length = 0 ∨ lastHi out ≠ k) ∧ wr.ownsRow w2.heap.size 39 2 t m (flats Sp.enc out) ∧ Below w2.heap.size w2 wr) (fun _ i _ => n - (intOf i).toNat)
  case atStart => exact ⟨0, [], 0, by omega, rfl, rfl, rfl, by omega, fun _ _ => .inl rfl, World.ownsRow_nil _ _ _ _, Below.refl _ _⟩
  case round =>
    obtain ⟨k, out, m, hk, rfl, hm, hout, hmk, hcl0, hrow, hB⟩ := hrel
    have hz := hB.size
    have HOUT := Lib.hid hout
    have HM := Lib.hid hm
    have HC := Lib.hid hcl0
    obtain ⟨At, ct, rfl, hct⟩ := own_form0 hrow
    clear hcl0 hm hout
    by_cases hlt : k < n
    · obtain ⟨b, off, rfl, hb, hcl⟩ := ints_cells (hr2.keep (flat_stable _) (fun _ h => h) (keep_below hB (fun b hb => hb.2))) (by rw [HLN.out]; omega)
      have q := hcl k (by rw [HLN.out]; exact hlt)
      have HCL := Lib.hid hcl
      have T := frOf_take l k (by rw [HLN.out]; exact hlt)
      have hi1 := frOf_hi l k (by rw [HLN.out]; omega)
      rw [HOUT.out] at T hi1
      have HT := Lib.hid T
      have HI1 := Lib.hid hi1
      have hnn := HNN.out k
      clear hcl T hi1
      by_cases h1 : nth 0 l k > 0
      · rw [if_pos h1] at HT
        generalize nth 0 l k = y at *
        go_wp2_with fail
        go_roundw
        case rel => exact ⟨k + 1, out, m, by omega, by go_num, HM.out, HT.out, by omega, fun _ _ => by rcases HI1.out with h | h; exact .inl h; exact .inr (by omega), hrow, hB⟩
        case measure => simp [intOf]; omega
      · rw [if_neg h1] at HT
        have h1z : nth 0 l k = 0 := by omega
        have HA := Lib.hid (HT.out.trans (frAdd_new (HC.out hlt h1z)))
        have HZ := Lib.hid h1z
        rw [h1z] at q
        clear h1 h1z hnn
        go_wp2_with fail
        go_loop [6] (fun i => ∃ j : Nat, k ≤ j ∧ j ≤ n ∧ i = .int .i64 j ∧ (j = k ∨ frOf (l.take j) = out ++ [⟨k, j⟩])) (fun i => n - (intOf i).toNat)
        case atStart => exact ⟨k, by omega, by omega, rfl, .inl rfl⟩
        case round =>
          obtain ⟨j, hkj, hjn, rfl, hjo⟩ := hrel
          have HJO := Lib.hid hjo
          clear hjo
          by_cases hjlt : j < n
          · have qj := HCL.out j (by rw [HLN.out]; exact hjlt)
            have hnj := HNN.out j
            have TJ := Lib.hid (frOf_take l j (by rw [HLN.out]; exact hjlt))
            by_cases hz0 : nth 0 l j = 0
            · have hnext : frOf (l.take (j + 1)) = out ++ [⟨k, ((j + 1 : Nat) : Int)⟩] := by
                rcases HJO.out with rfl | h
                · rw [HA.out]; simp
                · rw [TJ.out, if_neg (by omega), h, frAdd_more]; simp
              have HN := Lib.hid hnext
              rw [hz0] at qj
              clear hz0 hnj hnext TJ
              go_wp2_with fail
              go_round
              case rel => exact ⟨j + 1, by omega, by omega, by go_num, .inr HN.out⟩
              case measure => simp [intOf]; omega
            · have hzb : (nth 0 l j == 0) = false := beq_false_of_ne hz0
              have hne : j ≠ k := fun e => hz0 (by rw [e]; exact HZ.out)
              have hpos : nth 0 l j > 0 := by omega
              have HP := Lib.hid hpos
              have hfj : frOf (l.take j) = out ++ [⟨k, j⟩] := by rcases HJO.out with h | h; exact absurd h hne; exact h
              have HFJ := Lib.hid hfj
              have hkj2 : k < j := by omega
              clear hz0 hne hpos hfj hnj TJ
              generalize hyj : nth 0 l j = yj at *
              have HYJ := Lib.hid hyj
              clear hyj
              go_wp2_with (at_builtin; go_loud (refine wpList_append_one elSp rfl _ _ rfl w2.heap.size (.slice At m ct) m out ⟨k, j⟩ rfl hrow rfl (by omega) (by omega) ?_); intro A' cap' w5 hown hg)
              refine ⟨⟨j, out ++ [⟨k, j⟩], m + 1, hjn, rfl, by rw [List.length_append, HM.out]; rfl, HFJ.out, by omega, fun _ hz => absurd hz (by have := HP.out; have := HYJ.out; omega), hown, hB.grown hg hz (fun j hj => (hrow.lt j hj).1)⟩, by simp [intOf]; omega⟩
          · obtain rfl : j = n := by omega
            have hne : j ≠ k := by omega
            have hfj : frOf (l.take j) = out ++ [⟨k, j⟩] := by rcases HJO.out with h | h; exact absurd h hne; exact h
            have HFJ := Lib.hid hfj
            clear hne hfj
            go_wp2_with (at_builtin; go_loud (refine wpList_append_one elSp rfl _ _ rfl w2.heap.size (.slice At m ct) m out ⟨k, j⟩ rfl hrow rfl (by omega) (by omega) ?_); intro A' cap' w5 hown hg)
            refine ⟨⟨j, out ++ [⟨k, j⟩], m + 1, by omega, rfl, by rw [List.length_append, HM.out]; rfl, HFJ.out, by omega, fun h _ => absurd h (by omega), hown, hB.grown hg hz (fun j hj => (hrow.lt j hj).1)⟩, by simp [intOf]; omega⟩
    · obtain rfl : k = n := by omega
      have hfin : frOf l = out := by
        have := HOUT.out
        rw [List.take_of_length_le (by rw [HLN.out]; omega)] at this
        exact this
      have HF := Lib.hid hfin
      clear hfin
      go_wp2_with fail
      go_ret
      refine ⟨_, rfl, ?_, hk2.trans (hB.mono hk2.size)⟩
      rw [HF.out]
      have hm := HM.out
      subst hm
      have := IsSl.own (d := sp0) Sp.enc_len hrow (by omega)
      exact this.sub (flat_stable _) (fun b hb => ⟨by have h1 : w2.heap.size ≤ b := hb.1; have := hk2.size; omega, hb.2⟩)
end Go.Proofs.Ytjapokplhfnkfaa
