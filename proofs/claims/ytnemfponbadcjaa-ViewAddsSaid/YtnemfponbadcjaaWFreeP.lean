/- view.Free: the data blocks that nothing maps. Condition: the numbers fit into Go's int, and no slice is longer than the reach. -/
import Derived.Test.YtnemfponbadcjaaWUsageP
namespace Go.Proofs.Ytnemfponbadcjaa
open Go.RowKit

theorem info_span : (Try.prog.info? 48).map (fun i => (i.zero, i.size, i.bytes)) = some (some (.agg #[.int .i64 0, .int .i64 0]), 2, 16) := by kernel_rfl
theorem Sp.enc_one (m : Sp) : ∀ u ∈ m.enc, u.oneCell' = true := by
  intro u hu; simp [Sp.enc] at hu; rcases hu with rfl | rfl <;> rfl
theorem elSp : Elem Try.prog 45 48 2 16 Sp.enc := ⟨Try.underlying45, ⟨_, info_span, rfl⟩, by omega, by omega, Sp.enc_len, Sp.enc_one⟩
abbrev IsSps (w : World) (S : Nat → Prop) (v : Value) (l : List Sp) : Prop := IsSl (Flat Sp.enc) 2 sp0 w S v l
theorem flats_setSp (i : List Sp) (p : Sp) (u : Int) : (flats Sp.enc (i ++ [p])).set (i.length * 2 + 1) (.int .i64 u) = flats Sp.enc (i ++ [⟨p.lo, u⟩]) := by
  rw [flats_append, flats_append, flats_one, flats_one]
  have hl : (flats Sp.enc i).length = i.length * 2 := flats_length Sp.enc_len i
  rw [List.set_append_right _ _ (by omega), hl]
  simp [Sp.enc]
set_option maxRecDepth 100000 in
set_option maxHeartbeats 3200000 in
theorem free_any (w : World) (S : Nat → Prop) (v : Value) (p : Pool) (hS : ∀ b, S b → b < w.heap.size) (h : IsPool w S v p) (hok : p.ok) :
    Calls Try.prog 12 #[v] w fun e w' => ∃ v', e = .returned v' ∧ IsSps w' (Btw w.heap.size w'.heap.size) v' (frOf (refsRes p)) ∧ Below w.heap.size w w' := by
  have h0 := h
  obtain ⟨A, c, rfl, hc, hr⟩ := h
  have hB1 : Below w.heap.size w (w.alloc (poolBox p A p.devs.length c)) := (Below.refl _ _).alloc (Nat.le_refl _) _
  have hrf := refs_any (w.alloc (poolBox p A p.devs.length c)) S _ p (fun b hb => by have := hS b hb; simp; omega) (h0.below hB1 hS) hok
  have HRF := Lib.hid hrf
  have hll := refsRes_length (p := p)
  clear hrf hr h0
  generalize refsRes p = l at *
  generalize hln : l.length = n at *
  have HLN := Lib.hid hln
  clear hln
  dsimp only [poolBox] at hB1 HRF
  go_enter Try.func12, Try.ntmps12
  go_wp2_with (go_at_call 26; refine HRF.out.mono ?_; rintro e w2 ⟨v2, rfl, ⟨A2, c2, rfl, hc2, hr2⟩, hB2⟩; rw [HLN.out] at hc2 ⊢; have hk2 := hB1.trans (hB2.mono (by simp)))
  go_loopw [3, 10] (fun t i wr => ∃ (k : Nat) (out : List Sp) (m : Nat), k ≤ n ∧ i = .int .i64 k ∧ m = out.length ∧ frOf (l.take k) = out ∧ m ≤ k ∧ wr.ownsRow w2.heap.size 48 2 t m (flats Sp.enc out) ∧ Below w2.heap.size w2 wr) (fun _ i _ => n - (intOf i).toNat)
  case atStart => exact ⟨0, [], 0, by omega, rfl, rfl, rfl, by omega, World.ownsRow_nil _ _ _ _, Below.refl _ _⟩
  case round =>
    obtain ⟨k, out, m, hk, rfl, hm, hout, hmk, hrow, hB⟩ := hrel
    have hz := hB.size
    by_cases hlt : k < n
    · obtain ⟨b, off, rfl, hb, hcl⟩ := ints_cells (hr2.keep (flat_stable _) (fun _ h => h) (keep_below hB (fun b hb => hb.2))) (by rw [HLN.out]; omega)
      have q := hcl k (by rw [HLN.out]; exact hlt)
      have T := frOf_take l k (by rw [HLN.out]; exact hlt)
      rw [hout] at T
      have HT := Lib.hid T
      have HM := Lib.hid hm
      obtain ⟨At, ct, rfl, hct⟩ := own_form0 hrow
      clear hcl T hout hm
      generalize nth 0 l k = y at *
      by_cases h1 : y > 0
      · rw [if_pos h1] at HT
        go_wp2_with fail
        go_roundw
        case rel => exact ⟨k + 1, out, m, by omega, by go_num, HM.out, HT.out, by omega, hrow, hB⟩
        case measure => simp [intOf]; omega
      · rw [if_neg h1] at HT
        rcases List.eq_nil_or_concat out with rfl | ⟨i, p, rfl⟩
        · obtain rfl : m = 0 := by have := HM.out; simpa using this
          have HA := Lib.hid (HT.out.trans (frAdd_new (.inl rfl)))
          go_wp2_with (at_builtin; go_loud (refine wpList_append_one elSp rfl _ _ rfl w2.heap.size (.slice At 0 ct) 0 [] ⟨k, (k : Int) + 1⟩ rfl hrow rfl (by omega) (by omega) ?_); intro A' cap' w5 hown hg)
          refine ⟨⟨k + 1, [⟨k, (k : Int) + 1⟩], 1, by omega, by go_num, rfl, HA.out, by omega, hown, hB.grown hg hz (fun j hj => (hrow.lt j hj).1)⟩, by simp [intOf]; omega⟩
        · rw [List.concat_eq_append] at *
          obtain ⟨g, cap, heq, hg1, hg2, hg3⟩ := own_form hrow (by have := HM.out; simp at this; omega)
          simp only [Value.slice.injEq, true_and] at heq
          obtain ⟨rfl, rfl⟩ := heq
          obtain ⟨mi, hmi⟩ : ∃ mi, i.length = mi := ⟨_, rfl⟩
          have hm1 : m = mi + 1 := by have := HM.out; simp at this; omega
          subst hm1
          have hrow' := hrow
          have q1 : wr.cell? ⟨g, mi * 2 + 1, none⟩ = some (.int .i64 p.hi) := by
            rw [hrow.cellAt (mi * 2 + 1) (by omega), flats_append, flats_one, List.getElem?_append_right (by rw [flats_length Sp.enc_len, hmi]; omega), flats_length Sp.enc_len, hmi]
            rw [show mi * 2 + 1 - mi * 2 = 1 by omega]
            rfl
          have qf := hrow.frozenAt (mi * 2 + 1)
          have hst := hrow.stored (mi * 2 + 1) (.int .i64 ((k : Int) + 1))
          rw [← hmi, flats_setSp] at hst
          have HMI := Lib.hid hmi
          have HST := Lib.hid hst
          have e1 : ((mi : Int) + 1 - 1).toNat = mi := by omega
          clear hst hmi
          by_cases hh : p.hi = k
          · have HA := Lib.hid (HT.out.trans (by rw [show p = ⟨p.lo, p.hi⟩ from rfl, hh, frAdd_more]))
            have hhb : (p.hi == (k : Int)) = true := by simp [hh]
            rw [hh] at q1
            clear hh hhb
            go_wp2_with fail
            have hs1 := HST.out.1
            have hs2 := HST.out.2
            rw [HMI.out] at hs1 hs2
            refine ⟨⟨k + 1, i ++ [⟨p.lo, (k : Int) + 1⟩], mi + 1, by omega, by go_num, by rw [List.length_append, HMI.out]; rfl, HA.out, by omega, hs1, hB.setCell (by simp only; omega) _⟩, by simp [intOf]; omega⟩
          · have hhb : (p.hi == (k : Int)) = false := beq_false_of_ne hh
            have HA := Lib.hid (HT.out.trans (frAdd_new (.inr (by rw [lastHi_append]; exact hh))))
            clear hh
            go_wp2_with (at_builtin; go_loud (refine wpList_append_one elSp rfl _ _ rfl w2.heap.size (.slice (some ⟨g, 0, none⟩) (mi + 1) ct) (mi + 1) (i ++ [p]) ⟨k, (k : Int) + 1⟩ rfl hrow rfl (by omega) (by omega) ?_); intro A' cap' w5 hown hg)
            refine ⟨⟨k + 1, i ++ [p] ++ [⟨k, (k : Int) + 1⟩], mi + 1 + 1, by omega, by go_num, by rw [List.length_append, List.length_append, HMI.out]; rfl, HA.out, by omega, hown, hB.grown hg hz (fun j hj => (hrow.lt j hj).1)⟩, by simp [intOf]; omega⟩
    · obtain rfl : k = n := by omega
      have hfin : frOf l = out := by
        have := hout
        rw [List.take_of_length_le (by rw [HLN.out]; omega)] at this
        exact this
      have HF := Lib.hid hfin
      obtain ⟨At, ct, rfl, hct⟩ := own_form0 hrow
      clear hfin hout
      go_wp2_with fail
      go_ret
      refine ⟨_, rfl, ?_, hk2.trans (hB.mono hk2.size)⟩
      rw [HF.out]
      subst hm
      have := IsSl.own (d := sp0) Sp.enc_len hrow (by omega)
      exact this.sub (flat_stable _) (fun b hb => ⟨by have h1 : w2.heap.size ≤ b := hb.1; have := hk2.size; omega, hb.2⟩)
end Go.Proofs.Ytnemfponbadcjaa
