/- scantlingref38.List: how much the devices have. Condition: the numbers fit into Go's int, and no slice is longer than the reach. -/
import Derived.Test.YtjapokplhfnkfaaWList
namespace Go.Proofs.Ytjapokplhfnkfaa
open Go.RowKit

set_option maxRecDepth 100000 in
set_option maxHeartbeats 3200000 in
theorem rlist_any (w : World) (S : Nat → Prop) (v : Value) (p : Pool) (hS : ∀ b, S b → b < w.heap.size) (h : IsPool w S v p) (hok : p.ok) (hdn : p.devs.length ≤ 200) (hpm : ∀ k, k < p.devs.length → (nth dev0 p.devs k).maps.length ≤ 2000) :
    Calls Try.prog 7 #[v] w fun e w' => ∃ v', e = .returned v' ∧ IsLs w' (Btw w.heap.size w'.heap.size) v' (listRes p) ∧ Below w.heap.size w w' := by
  have h0 := h
  obtain ⟨A, c, rfl, hc, hr⟩ := h
  have hB1 : Below w.heap.size w (w.alloc (poolBox p A p.devs.length c)) := (Below.refl _ _).alloc (Nat.le_refl _) _
  have hpb := PBox.new w p A p.devs.length c
  have hck := fun w' (hB : Below w.heap.size w w') => rcheck_any w' S _ p (fun b hb => Nat.lt_of_lt_of_le (hS b hb) hB.size) (h0.below hB hS) hok
  have hrf := rrefs_any (w.alloc (poolBox p A p.devs.length c)) S _ p (fun b hb => by have := hS b hb; simp; omega) (h0.below hB1 hS) hok
  have HCK := Lib.hid hck
  have HRF := Lib.hid hrf
  clear hck hrf h0
  dsimp only [poolBox] at hB1 HRF hpb
  by_cases hz : poolChk p = 0
  · rw [hz] at HCK
    have HMF := Lib.hid (fun k j hk hj => mapped_facts (p := p) hz (k := k) (j := j) hk hj)
    have hres : listRes p = p.devs.map (lsOf (refsRes p)) := by unfold listRes; rw [if_pos hz]
    have HRES := Lib.hid hres
    clear hres hz hok
    generalize refsRes p = L at *
    generalize hnn : p.devs.length = n at *
    have HN := Lib.hid hnn
    clear hnn
    have HPM := Lib.hid hpm
    clear hpm
    go_enter Try.func7, Try.ntmps7
    go_wp2_with (first
      | (go_at_call 14; refine HRF.out.mono ?_; rintro e w2 ⟨v2, rfl, ⟨A3, c3, rfl, hc3, hr2⟩, hB2⟩; have hk2 := hB1.trans (hB2.mono (by simp)); have hp2 := hpb.below hB2 (by simp); obtain ⟨x0, x1, x2, x3, x4⟩ := hp2.cells; clear hpb)
      | (go_at_call 15; refine (HCK.out _ hk2).mono ?_; rintro e w3 ⟨rfl, hB3⟩; have hk3 := hk2.trans (hB3.mono hk2.size); have hp3 := hp2.below hB3 hp2.lt; have hr3 := hr2.keep (flat_stable _) (fun _ h => h) (keep_below hB3 (fun b hb => hb.2)); have hz23 := hB3.size; clear x0 x1 x2 x3 x4 hr2; clear hp2))
    have HP3 := Lib.hid hp3
    have hp3l := hp3.lt
    clear hp3
    go_loopw [4, 5] (fun t i wr => ∃ k : Nat, k ≤ n ∧ i = .int .i64 k ∧ wr.ownsRow w3.heap.size 34 4 t k (flats Ls.enc ((p.devs.take k).map (lsOf L))) ∧ Below w3.heap.size w3 wr) (fun _ i _ => n - (intOf i).toNat)
    case atStart => exact ⟨0, by omega, rfl, World.ownsRow_nil _ _ _ _, Below.refl _ _⟩
    case round =>
      obtain ⟨k, hk, rfl, hrow, hB⟩ := hrel
      obtain ⟨wo, rfl⟩ : ∃ wo : World, wo = wr := ⟨_, rfl⟩
      have hzw := hB.size
      have hkw := hk3.trans (hB.mono hk3.size)
      obtain ⟨x0, x1, x2, x3, x4⟩ := (HP3.out.below hB hp3l).cells
      obtain ⟨At, ct, rfl, hct⟩ := own_form0 hrow
      by_cases hlt : k < n
      · obtain ⟨b, off, rfl, hb, hcl⟩ := devs_cells (hr.keep rdev_stable (fun _ h => h) (keep_below hkw hS)) (by rw [HN.out]; omega)
        obtain ⟨c0, c1, c2, c3', A', c', c4, hc', hr'⟩ := hcl k (by rw [HN.out]; exact hlt)
        have hbw : b < wo.heap.size := by have := hS b hb; have := hkw.size; omega
        have hml := HPM.out k hlt
        have hnext : (p.devs.take (k + 1)).map (lsOf L) = (p.devs.take k).map (lsOf L) ++ [lsOf L (nth dev0 p.devs k)] := by rw [take_nth dev0 _ _ (by rw [HN.out]; exact hlt)]; simp
        have HNX := Lib.hid hnext
        have HMK := Lib.hid (fun j hj => HMF.out k j hlt hj)
        clear hcl hnext
        generalize nth dev0 p.devs k = d at *
        generalize hdl : d.maps.length = dl at *
        have HDL := Lib.hid hdl
        clear hdl
        have hX0 : Four (wo.alloc (.cells #[.int .i64 d.id, .int .i64 (dl : Int), .int .i64 0, .int .i64 0] 34)) wo.heap.size 34 ⟨d.id, dl, 0, 0⟩ := heap_alloc_new wo (.cells #[.int .i64 d.id, .int .i64 (dl : Int), .int .i64 0, .int .i64 0] 34)
        have hBW : Below wo.heap.size wo (wo.alloc (.cells #[.int .i64 d.id, .int .i64 (dl : Int), .int .i64 0, .int .i64 0] 34)) := (Below.refl _ _).alloc (Nat.le_refl _) _
        go_wp2_with fail
        generalize wo.alloc (.cells #[.int .i64 d.id, .int .i64 (dl : Int), .int .i64 0, .int .i64 0] 34) = w5 at *
        clear x0 x1 x2 x3 x4
        go_loopw [8] (fun i w4 => ∃ j : Nat, j ≤ dl ∧ i = .int .i64 j ∧ Four w4 wo.heap.size 34 ⟨d.id, dl, ownN L (d.maps.take j), (j : Int) - ownN L (d.maps.take j)⟩ ∧ Below wo.heap.size wo w4) (fun i _ => dl - (intOf i).toNat)
        case atStart => exact ⟨0, by omega, rfl, hX0, hBW⟩
        case round =>
          clear hX0 hBW c0 c1 c2 c3' c4
          obtain ⟨j, hj, rfl, hX, hBi⟩ := hrel
          have hzi := hBi.size
          have hob := ownN_bound L (d.maps.take j)
          have hjlen : (d.maps.take j).length = j := by rw [List.length_take, HDL.out]; omega
          rw [hjlen] at hob
          obtain ⟨⟨y0, y1, y2, y3⟩, yf2, yf3⟩ := hX.cells
          simp only at y0 y1 y2 y3
          have hXl := hX.lt
          by_cases hjl : j < dl
          · obtain ⟨mb, mo, rfl, hmb, hmc⟩ := maps_cells (hr'.keep rmp_stable (fun _ h => h) (keep_below hBi (fun b hb => by have := hS b hb; have := hkw.size; omega))) (by rw [HDL.out]; omega)
            obtain ⟨m0, m1, m2⟩ := hmc j (by rw [HDL.out]; exact hjl)
            obtain ⟨hb0, hb1, hb2⟩ := HMK.out j hjl
            have HT := Lib.hid (ownN_take L d.maps j (by rw [HDL.out]; exact hjl))
            clear hmc hjlen
            generalize nth mp0 d.maps j = m at *
            obtain ⟨bn, hbn⟩ := Int.eq_ofNat_of_zero_le hb0
            rw [hbn] at m1 HT hb1 hb2
            rw [Int.toNat_natCast] at HT hb1 hb2
            have hBw3 := hB.trans (hBi.mono hzw)
            obtain ⟨b3, o3, rfl, hb3, hcl3⟩ := ints_cells (hr3.keep (flat_stable _) (fun _ h => h) (keep_below hBw3 (fun b hb => by have h1 : b < w2.heap.size := hb.2; omega))) (by omega)
            have q := hcl3 bn (by omega)
            clear hcl3 hbn hb0
            generalize nth 0 L bn = y at *
            generalize ownN L (d.maps.take j) = z at *
            have HX := Lib.hid hX
            have HBI := Lib.hid hBi
            clear hX hBi
            by_cases hy1 : y = 1
            · rw [if_pos hy1] at HT
              have hyb : ¬ y > 1 := by omega
              clear hy1
              go_wp2_with fail
              refine ⟨⟨j + 1, by omega, by go_num, ?_, (HBI.out).setCell (by simp only; omega) _⟩, by simp [intOf]; omega⟩
              rw [HT.out, show ((j + 1 : Nat) : Int) - (z + 1) = (j : Int) - z by omega]
              exact (HX.out).set2 (z + 1)
            · rw [if_neg hy1, Int.add_zero] at HT
              have hyb : y > 1 := by omega
              clear hy1
              go_wp2_with fail
              refine ⟨⟨j + 1, by omega, by go_num, ?_, (HBI.out).setCell (by simp only; omega) _⟩, by simp [intOf]; omega⟩
              rw [HT.out, show ((j + 1 : Nat) : Int) - z = (j : Int) - z + 1 by omega]
              exact (HX.out).set3 ((j : Int) - z + 1)
          · obtain rfl : j = dl := by omega
            have htk : d.maps.take j = d.maps := List.take_of_length_le (by rw [HDL.out]; omega)
            rw [htk] at hX hob y2 y3
            have hls : lsOf L d = ⟨d.id, j, ownN L d.maps, (j : Int) - ownN L d.maps⟩ := by unfold lsOf; rw [HDL.out]
            have HLS := Lib.hid hls
            have hrow2 := own_below' hrow hBi (fun g hg => (hrow.lt g hg).2)
            have HBS := Lib.hid (hB.trans (hBi.mono hzw))
            clear htk hls hX
            generalize ownN L d.maps = z at *
            go_wp2_with (at_builtin; go_loud (refine wpList_append_one elRLs rfl _ _ rfl w3.heap.size (.slice At k ct) k ((p.devs.take k).map (lsOf L)) ⟨d.id, j, z, (j : Int) - z⟩ rfl hrow2 rfl (by omega) (by omega) ?_); intro A6 cap6 w6 hown hg)
            go_roundw
            case rel =>
              refine ⟨k + 1, by omega, by go_num, ?_, HBS.out.grown hg (by omega) (fun j hj => (hrow.lt j hj).1)⟩
              rw [HNX.out, HLS.out]
              exact hown
            case measure => simp [intOf]; omega
      · obtain rfl : k = n := by omega
        have hfin : listRes p = (p.devs.take k).map (lsOf L) := by rw [HRES.out, List.take_of_length_le (by rw [HN.out]; omega)]
        have HF := Lib.hid hfin
        clear hfin
        go_wp2_with fail
        go_ret
        refine ⟨_, rfl, ?_, hkw⟩
        rw [HF.out]
        have := IsSl.own (enc := Ls.enc) (d := ls0) Ls.enc_len hrow (by omega)
        exact this.sub (flat_stable _) (fun b hb => ⟨by have h1 : w3.heap.size ≤ b := hb.1; have := hk3.size; omega, hb.2⟩)
  · have hzb : (poolChk p != 0) = true := by simp [hz]
    have hres : listRes p = [] := by unfold listRes; rw [if_neg hz]
    have HRES := Lib.hid hres
    clear hres hz
    go_enter Try.func7, Try.ntmps7
    go_wp2_with (first
      | (go_at_call 14; refine HRF.out.mono ?_; rintro e w2 ⟨v2, rfl, ⟨A3, c3, rfl, hc3, hr2⟩, hB2⟩; have hk2 := hB1.trans (hB2.mono (by simp)); have hp2 := hpb.below hB2 (by simp); obtain ⟨x0, x1, x2, x3, x4⟩ := hp2.cells; clear hpb)
      | (go_at_call 15; refine (HCK.out _ hk2).mono ?_; rintro e w3 ⟨rfl, hB3⟩; have hk3 := hk2.trans (hB3.mono hk2.size)))
    go_ret
    exact ⟨_, rfl, by rw [HRES.out]; exact IsSl.nil_, hk3⟩
end Go.Proofs.Ytjapokplhfnkfaa
