/- scantlingref18.Refs returns the counts of the data blocks, or nothing. Condition: the numbers fit into Go's int, and no slice is longer than the reach. -/
import Derived.Test.YtooffkhdanimbaaWPoolRefs
import Derived.Test.YtooffkhdanimbaaWRef18b
namespace Go.Proofs.Ytooffkhdanimbaa
open Go.RowKit

/-- The call's own row of counts. -/
def CntRow (w : World) (base g cap : Nat) (l : List Int) : Prop := w.ownsRow base 3 1 (.slice (some ⟨g, 0, none⟩) l.length cap) l.length (flats encI l)

set_option maxRecDepth 100000 in
set_option maxHeartbeats 3200000 in
theorem rrefs_any (w : World) (S : Nat → Prop) (v : Value) (p : Pool) (hS : ∀ b, S b → b < w.heap.size) (h : IsPool w S v p) (hok : p.ok) :
    Calls Try.prog 23 #[v] w fun e w' => ∃ v', e = .returned v' ∧ IsInts w' (Btw w.heap.size w'.heap.size) v' (refsRes p) ∧ Below w.heap.size w w' := by
  have hp0 := h
  obtain ⟨A, c, rfl, hc, hr⟩ := h
  have hck := fun w2 (hB : Below w.heap.size w w2) => rcheck_any w2 S _ p (fun b hb => Nat.lt_of_lt_of_le (hS b hb) hB.size) (hp0.below hB hS) hok
  have HCK := Lib.hid hck
  have hw1 : Below w.heap.size w (w.alloc (.cells #[.int .i64 p.tx, .int .i64 p.time, .int .i64 p.unit, .int .i64 p.data, .slice A p.devs.length c] 24)) := (Below.refl _ _).alloc (Nat.le_refl _) _
  by_cases hz : poolChk p = 0
  · have e : refsRes p = refsOf p := by unfold refsRes; rw [if_pos hz]
    rw [e]
    have hzb : (poolChk p != 0) = false := by simp [hz]
    obtain ⟨q1, q2, _⟩ := poolChk_parts hz
    have hdat : 0 ≤ p.data ∧ p.data ≤ 65536 := by simp [headB] at q1; exact inB_iff.1 q1.2.2
    have hnd : p.devs.length ≤ 4096 := by simp [sizeB] at q2; exact q2.1
    have hpb := pairs_b hz
    have hpf := pairs_few hz
    clear hz e q1 q2 hck
    obtain ⟨i0, hi, hz0, hz1, hz2⟩ := info_parts info_int
    obtain ⟨dn, hdn⟩ := Int.eq_ofNat_of_zero_le hdat.1
    have HDN := Lib.hid hdn
    have hdn2 : dn ≤ 65536 := by omega
    have hri : refsOf p = bumps (List.replicate dn 0) (pairs p.devs) := by unfold refsOf; rw [hdn, Int.toNat_natCast]
    have HRI := Lib.hid hri
    clear hri hdn
    have hmk : ∀ k, k < p.devs.length → (nth dev0 p.devs k).maps.length ≤ 140737488355328 := fun k hk => by have := (hok.dev hk).2.2.2.2.2; omega
    have HPB := Lib.hid hpb
    clear hpb
    go_enter Try.func23, Try.ntmps23
    go_wp2_with (first
      | (go_at_call 21; refine (HCK.out _ hw1).mono ?_; rintro e w2 ⟨rfl, hB2⟩; have hsz2 := hB2.size; have hB2' := hw1.trans (hB2.mono (by simp)); have hp2 := (PBox.new w p A p.devs.length c).below hB2 (by simp); obtain ⟨x0, x1, x2, x3, x4⟩ := hp2.cells; simp only [World.size_alloc] at hsz2)
      | (at_make; go_loud (refine wpList_make_full _ rfl _ _ 40 rfl (w.heap.size + 1) 3 i0 (.int .i64 0) 1 Try.underlying40 hi hz0 hz1 _ _ _ _ dn rfl rfl HDN.out HDN.out (by rw [hz2]; omega) (by unfold maxLen; omega) hsz2 ?_); intro w3 hown hg3; rw [madeInts] at hown))
    have hB3 : Below w2.heap.size w2 w3 := (Below.refl _ w2).grown hg3 (Nat.le_refl _) (fun k e => by cases e)
    have hlt0 : w.heap.size < w2.heap.size := by omega
    have hwz : w2.heap.size ≤ w3.heap.size := hB3.size
    clear hp0 x0 x1 x2 x3 x4
    generalize hl0 : p.devs.length = nd at *
    have hl := Lib.hid hl0
    have HMK := Lib.hid hmk
    clear hl0 hmk
    go_loopw [4] (fun i wr => ∃ k : Nat, k ≤ nd ∧ i = .int .i64 k ∧ Below w2.heap.size w2 wr ∧ wr.ownsRow (w.heap.size + 1) 3 1 (.slice (some ⟨w2.heap.size, 0, none⟩) dn dn) dn (flats encI (bumps (List.replicate dn 0) (upto p.devs k 0)))) (fun i _ => nd - (intOf i).toNat)
    case atStart => exact ⟨0, by omega, rfl, hB3, by rw [upto_zero]; exact hown⟩
    case round =>
      obtain ⟨k, hk, rfl, hBr, hrow⟩ := hrel
      obtain ⟨x0, x1, x2, x3, x4⟩ := (hp2.below hBr hlt0).cells
      by_cases hlt : k < nd
      · have hBw : Below w.heap.size w wr := hB2'.trans (hBr.mono (by omega))
        have hkl : k < p.devs.length := by rw [hl.out]; omega
        have hml := HMK.out k hlt
        have HNX := Lib.hid (upto_next hkl)
        have hmem : ∀ j, j < (nth dev0 p.devs k).maps.length → (k, nth mp0 (nth dev0 p.devs k).maps j) ∈ pairs p.devs := fun j hj => (upto_prefix (j := j + 1) hkl).subset (by rw [upto_succ hj]; simp)
        have hlen : ∀ j, j < (nth dev0 p.devs k).maps.length → (upto p.devs k j).length ≤ 16384 := fun j hj => by have := (upto_prefix (j := j) hkl).length_le; omega
        have HMEM := Lib.hid hmem
        have HLEN := Lib.hid hlen
        clear hmem hlen
        go_wp2_with fail
        go_loopw [5] (fun i w4 => ∃ j : Nat, j ≤ (nth dev0 p.devs k).maps.length ∧ i = .int .i64 j ∧ Below w2.heap.size w2 w4 ∧ w4.ownsRow (w.heap.size + 1) 3 1 (.slice (some ⟨w2.heap.size, 0, none⟩) dn dn) dn (flats encI (bumps (List.replicate dn 0) (upto p.devs k j)))) (fun i _ => (nth dev0 p.devs k).maps.length - (intOf i).toNat)
        case atStart => exact ⟨0, by omega, rfl, hBr, hrow⟩
        case round =>
          clear x0 x1 x2 x3 x4
          obtain ⟨j, hj, rfl, hB4, hrow4⟩ := hrel
          obtain ⟨x0, x1, x2, x3, x4⟩ := (hp2.below hB4 hlt0).cells
          have hB4w : Below w.heap.size w wr := hB2'.trans (hB4.mono (by omega))
          obtain ⟨b, off, rfl, hb, hcl⟩ := devs_cells (hr.keep rdev_stable (fun _ h => h) (keep_below hB4w hS)) (by rw [hl.out]; omega)
          obtain ⟨c0, c1, c2, c3, A', c', c4, hc', hr'⟩ := hcl k (by rw [hl.out]; omega)
          clear hcl
          by_cases hjl : j < (nth dev0 p.devs k).maps.length
          · obtain ⟨mb, mo, rfl, hmb, hmc⟩ := maps_cells hr' (by omega)
            obtain ⟨m0, m1, m2⟩ := hmc j hjl
            have hmm := HPB.out _ (HMEM.out j hjl)
            rw [HDN.out] at hmm
            have HU := Lib.hid (congrArg (bumps (List.replicate dn 0)) (upto_succ hjl))
            have hcb := counts_bound dn (upto p.devs k j) (nth mp0 (nth dev0 p.devs k).maps j).b.toNat
            have hle := HLEN.out j hjl
            have hbl : (bumps (List.replicate dn 0) (upto p.devs k j)).length = dn := by rw [bumps_length, List.length_replicate]
            clear hmc hr'
            simp only at hmm
            generalize nth mp0 (nth dev0 p.devs k).maps j = m at *
            rw [bumps_snoc] at HU
            simp only at HU
            obtain ⟨bn, hbn⟩ := Int.eq_ofNat_of_zero_le hmm.1
            rw [hbn] at m1 HU hcb hmm
            rw [Int.toNat_natCast] at hcb
            have hbd : bn < dn := by omega
            clear hmm hbn
            generalize hcu : bumps (List.replicate dn 0) (upto p.devs k j) = cu at *
            have HCU := Lib.hid hcu
            clear hcu
            have hst := hrow4.stored bn (.int .i64 (nth 0 cu bn + 1))
            have hset : (flats encI cu).set bn (.int .i64 (nth 0 cu bn + 1)) = flats encI (bump cu (bn : Int)) := by
              rw [flats_encI, flats_encI, bump, Int.toNat_natCast, List.map_set]
            rw [hset] at hst
            have hcell : wr.cell? ⟨w2.heap.size, bn, none⟩ = some (.int .i64 (nth 0 cu bn)) := by
              rw [hrow4.cellAt bn (by omega), flats_encI, nth_get 0 cu bn (by omega)]
              simp [hbl, hbd]
            have hfr := hrow4.frozenAt bn
            have HST := Lib.hid hst
            have hc0 := hcb.1
            have hc1 := hcb.2
            clear hst hset hrow4 hcb hbl
            generalize nth 0 cu bn = y at *
            go_wp2_with fail
            refine ⟨⟨j + 1, by omega, by go_num, hB4.setCell (Nat.le_refl _) _, by rw [HU.out]; exact HST.out.1⟩, by simp [intOf]; omega⟩
          · have hje : Hid (upto p.devs k j = upto p.devs (k + 1) 0) := by rw [show j = (nth dev0 p.devs k).maps.length from by omega]; exact HNX.out
            rw [hje.out] at hrow4
            go_wp2_with fail
            go_roundw
            case rel => exact ⟨k + 1, by omega, by go_num, hB4, hrow4⟩
            case measure => simp [intOf]; omega
      · have hfin : bumps (List.replicate dn 0) (upto p.devs k 0) = refsOf p := by rw [upto_zero, List.take_of_length_le (by rw [hl.out]; omega), HRI.out]
        rw [hfin] at hrow
        have HROW := Lib.hid hrow
        clear hrow hfin
        go_wp2_with fail
        go_ret
        have hBz := hBr.size
        refine ⟨_, rfl, ?_, hB2'.trans (hBr.mono (by omega))⟩
        exact (IsSl.own (enc := encI) (d := (0 : Int)) (l := refsOf p) encI_len HROW.out (by omega)).sub (flat_stable _) (fun b hb => ⟨by have := hb.1; omega, hb.2⟩)
  · have e : refsRes p = [] := by unfold refsRes; rw [if_neg hz]
    rw [e]
    have hzb : (poolChk p != 0) = true := by simp [hz]
    clear hz e hck
    go_enter Try.func23, Try.ntmps23
    go_wp2_with (go_at_call 21; refine (HCK.out _ hw1).mono ?_; rintro e w2 ⟨rfl, hB2⟩)
    go_ret
    exact ⟨_, rfl, IsSl.nil_, hw1.trans (hB2.mono (by simp))⟩
end Go.Proofs.Ytooffkhdanimbaa
