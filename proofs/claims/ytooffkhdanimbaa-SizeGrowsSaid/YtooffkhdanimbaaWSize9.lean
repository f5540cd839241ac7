/- scantlingref20.Base: how many blocks a pool needs, but for the blocks' own counts. Condition: the numbers fit into Go's int, and no slice is longer than the reach. -/
import Derived.Test.YtooffkhdanimbaaWSize8
import Derived.Test.YtooffkhdanimbaaWRRefs
import Derived.Test.YtooffkhdanimbaaWRef18b
namespace Go.Proofs.Ytooffkhdanimbaa
open Go.RowKit
attribute [local go_sem] Oper.semAt_some

set_option maxRecDepth 100000 in
set_option maxHeartbeats 3200000 in
theorem rbase_any (w : World) (S : Nat → Prop) (v : Value) (p : Pool) (hS : ∀ b, S b → b < w.heap.size) (h : IsPool w S v p) (hok : p.ok) :
    Calls Try.prog 11 #[v] w fun e w' => e = .returned (.int .i64 (baseN p)) ∧ Below w.heap.size w w' := by
  have h0 := h
  obtain ⟨A, c, rfl, hc, hr⟩ := h
  obtain ⟨w1, hw1⟩ : ∃ w1, w1 = w.alloc (poolBox p A p.devs.length c) := ⟨_, rfl⟩
  have hB1 : Below w.heap.size w w1 := by rw [hw1]; exact (Below.refl _ _).alloc (Nat.le_refl _) _
  have hpb : PBox w1 w.heap.size p A p.devs.length c := by rw [hw1]; exact PBox.new w p A _ c
  have hs1 : w1.heap.size = w.heap.size + 1 := by rw [hw1]; simp
  have hk0 : Below w1.heap.size w1 (w.alloc (poolBox p A p.devs.length c)) := by rw [← hw1]; exact Below.refl _ _
  have hup : ∀ w', Below w.heap.size w w' → ∀ b, S b → b < w'.heap.size := fun w' hB b hb => Nat.lt_of_lt_of_le (hS b hb) hB.size
  have hck := fun w' (hB : Below w.heap.size w w') => rcheck_any w' S _ p (hup w' hB) (h0.below hB hS) hok
  have hof := fun w' (hB : Below w.heap.size w w') => rrefs_any w' S _ p (hup w' hB) (h0.below hB hS) hok
  have HCK := Lib.hid hck
  have HOF := Lib.hid hof
  have HR := Lib.hid (fun w' (hB : Below w.heap.size w w') => devs_rowB hr hB hS)
  have HP := Lib.hid (fun w' (hB : Below w1.heap.size w1 w') => (hpb.below hB (by omega)).cells)
  have HUP := Lib.hid (fun w' (hB : Below w1.heap.size w1 w') => hB1.trans (hB.mono (by omega)))
  clear hck hof h0 hup hr hw1 hpb
  have HS1 := Lib.hid hs1
  clear hs1
  dsimp only [poolBox] at hk0
  by_cases hz : poolChk p = 0
  · have e : baseN p = baseOk p := by unfold baseN; rw [if_pos hz]
    have HE := Lib.hid e
    rw [hz] at HCK
    obtain ⟨f1, f2, f3, f4, f5, f6⟩ := pool_few hz
    have hb1 := bitsN_facts f1.2
    have hof : cntG 2 (refsRes p) = oftenN p := rfl
    have HC := Lib.hid hof
    have hrl := refsRes_len (p := p)
    have a1 := nodes_pos 1 p.devs.length
    have a3 := nodes_pos 3 p.devs.length
    have a4 := nodes_pos 4 (bitsN p.data)
    have a5 := nodes_pos 5 (oftenN p)
    have c1 := nodes_le' 1 (n := (p.devs.length : Int)) (by omega)
    have c3 := nodes_le' 3 (n := (p.devs.length : Int)) (by omega)
    have c4 := nodes_le' 4 hb1.1
    have c5 := nodes_le' 5 f5
    have hs := nodesL_sum p.devs
    have hd0 := devSum_pos p.devs
    have hd1 := devSum_le p.devs
    unfold Pool.count at f3 f6
    have HSUM := Lib.hid hs
    have HLB := Lib.hid (nodesL_bound f4)
    have HF4 := Lib.hid f4
    have hall : Hid (1 + nodesN 3 p.devs.length + nodesN 1 p.devs.length + devSum p.devs + nodesN 4 (bitsN p.data) + nodesN 5 (oftenN p) + bitsN p.data = baseOk p) := by
      refine Lib.hid ?_
      unfold baseOk
      omega
    clear hz e hof hs f4 hok
    generalize refsRes p = L at *
    generalize oftenN p = ot at *
    generalize baseOk p = res at *
    rw [HE.out]
    have hbm := fun w' => rbitmaps_any w' p.data (by omega)
    have HBM := Lib.hid hbm
    clear hbm
    obtain ⟨bN, hbN⟩ : ∃ bN, bitsN p.data = bN := ⟨_, rfl⟩
    rw [hbN] at hb1 a4 c4 hall HBM
    obtain ⟨n4, hn4⟩ : ∃ n4, nodesN 4 bN = n4 := ⟨_, rfl⟩
    have HN4 := Lib.hid (fun w' => rnodes_any w' 4 bN (by omega) hb1.1 (by omega))
    have HN5 := Lib.hid (fun w' => rnodes_any w' 5 ot (by omega) f5 (by omega))
    have HN1 := Lib.hid (fun w' => rnodes_any w' 1 p.devs.length (by omega) (by omega) (by omega))
    have HN3 := Lib.hid (fun w' => rnodes_any w' 3 p.devs.length (by omega) (by omega) (by omega))
    rw [hn4] at a4 c4 hall HN4
    generalize nodesN 5 ot = n5 at *
    generalize nodesN 1 (p.devs.length : Int) = n1 at *
    generalize nodesN 3 (p.devs.length : Int) = n3 at *
    clear hbN hn4
    have hds : devSum p.devs ≤ 100000 := by omega
    have hot : n5 ≤ 32770 := by omega
    clear hd1 f3 f6
    generalize hnn : p.devs.length = n at *
    have HN := Lib.hid hnn
    clear hnn HE
    have HDS := Lib.hid (fun k hk => (⟨devSum_pos (p.devs.take k), (devSum_take p.devs k (by rw [HN.out]; exact hk))⟩ : 0 ≤ devSum (p.devs.take k) ∧ _))
    have HDL := Lib.hid (fun k => devSum_take_le p.devs k)
    generalize hln : L.length = ln at *
    have HLN := Lib.hid hln
    clear hln
    go_enter Try.func11, Try.ntmps11
    go_wp2_with (go_at_call 21; refine (HCK.out _ (HUP.out _ hk0)).mono ?_; rintro e w2 ⟨rfl, hB2⟩; have hk2 := hk0.trans (hB2.mono hk0.size); obtain ⟨x0, x1, x2, x3, x4⟩ := HP.out _ hk2)
    have hk2 := hk2.drew
    go_region_held3 (fun w' => w'.cell? ⟨w.heap.size, 4, none⟩ = some (.slice A n c)) (go_keep)
      (first
        | (go_at_call 22; have _ := hk3; refine (HN1.out _).mono ?_; rintro e w4 ⟨rfl, hB4⟩; have hk4 := hk3.trans (hB4.mono hk3.size); clear x0 x1 x2 x3 x4; obtain ⟨x0, x1, x2, x3, x4⟩ := HP.out _ hk4)
        | (go_at_call 22; refine (HN3.out _).mono ?_; rintro e w3 ⟨rfl, hB3⟩; have hk3 := hk2.trans (hB3.mono hk2.size); clear x0 x1 x2 x3 x4; obtain ⟨x0, x1, x2, x3, x4⟩ := HP.out _ hk3))
    have hsz4 := hk4.size
    clear x0 x1 x2 x3 x4
    go_wp2_with fail
    go_loopw [3, 4] (fun t i wr => ∃ k : Nat, k ≤ n ∧ i = .int .i64 k ∧ t = .int .i64 (1 + n3 + n1 + devSum (p.devs.take k)) ∧ Below w4.heap.size w4 wr) (fun _ i _ => n - (intOf i).toNat)
    case atStart => exact ⟨0, by omega, rfl, by have e : IntKind.i64.wrap (IntKind.i64.wrap (1 + n3) + n1) = 1 + n3 + n1 := (by simp only [IntKind.wrap_i64]; omega); simp [devSum, e], Below.refl _ _⟩
    case round =>
      obtain ⟨k, hk, rfl, rfl, hB⟩ := hrel
      have hz := hB.size
      have hkk := hk4.trans (hB.mono hk4.size)
      obtain ⟨x0, x1, x2, x3, x4⟩ := HP.out _ hkk
      have hdl := HDL.out k
      by_cases hlt : k < n
      · obtain ⟨b, off, rfl, hb, hcl⟩ := devs_cells (HR.out _ (HUP.out _ hkk)) (by rw [HN.out]; omega)
        obtain ⟨d0, d1, d2, d3, A', c', d4, hc', hm'⟩ := hcl k (by rw [HN.out]; omega)
        obtain ⟨hd0', hd1'⟩ := HDS.out k hlt
        have HT := Lib.hid hd1'
        have hml := HF4.out k hlt
        have hbS := hS b hb
        clear hcl hm' hd1'
        have hdl2 := HDL.out (k + 1)
        rw [HT.out] at hdl2
        generalize nth dev0 p.devs k = d at *
        have HND := Lib.hid (fun w' => rnodes_any w' 2 d.maps.length (by omega) (by omega) (by omega))
        have hndp := nodes_pos 2 d.maps.length
        generalize nodesN 2 (d.maps.length : Int) = nd at *
        generalize d.maps.length = ml at *
        generalize devSum (p.devs.take k) = ds at *
        go_wp2_with (go_at_call 22; refine (HND.out _).mono ?_; rintro e w5 ⟨rfl, hB5⟩)
        go_roundw
        case rel => exact ⟨k + 1, by omega, by go_num, by rw [HT.out]; go_num, hB.trans (hB5.mono hz)⟩
        case measure => simp [intOf]; omega
      · obtain rfl : k = n := by omega
        have hfin : p.devs.take k = p.devs := List.take_of_length_le (by rw [HN.out]; omega)
        rw [hfin] at hdl ⊢
        clear hfin HDS HDL HF4 HLB
        generalize devSum p.devs = ds at *
        obtain ⟨wo, rfl⟩ : ∃ wo : World, wo = wr := ⟨_, rfl⟩
        go_wp2_with (go_at_call 23; refine (HOF.out _ (HUP.out _ hkk)).mono ?_; rintro e w6 ⟨v6, rfl, ⟨A6, c6, rfl, hc6, hr6⟩, hB6⟩; rw [HLN.out] at hc6 ⊢; have hk6 := hkk.trans (hB6.mono hkk.size); clear x0 x1 x2 x3 x4; obtain ⟨x0, x1, x2, x3, x4⟩ := HP.out _ hk6)
        go_loop [6, 7] (fun t i => ∃ j : Nat, j ≤ ln ∧ i = .int .i64 j ∧ t = .int .i64 (cntG 2 (L.take j))) (fun _ i => ln - (intOf i).toNat)
        case atStart => exact ⟨0, by omega, rfl, rfl⟩
        case round =>
          obtain ⟨j, hj, rfl, rfl⟩ := hrel
          have b0 := cntG_bound 2 (L.take j)
          have hlk : (L.take j).length = j := by rw [List.length_take, HLN.out]; omega
          rw [hlk] at b0
          by_cases hjl : j < ln
          · obtain ⟨b, off, rfl, hb, hcl⟩ := ints_cells hr6 (by rw [HLN.out]; omega)
            have q := hcl j (by rw [HLN.out]; exact hjl)
            have T0 := Lib.hid (cntG_take 2 L j (by rw [HLN.out]; exact hjl))
            clear hcl hlk x0 x1 x2 x3 x4
            generalize nth 0 L j = y at *
            generalize cntG 2 (L.take j) = z0 at *
            by_cases h1 : y ≥ 3
            · go_wp2_with fail
              go_round
              case rel => exact ⟨j + 1, by omega, by go_num, by rw [T0.out, if_pos (by omega)]⟩
              case measure => simp [intOf]; omega
            · go_wp2_with fail
              go_round
              case rel => exact ⟨j + 1, by omega, by go_num, by rw [T0.out, if_neg (by omega), Int.add_zero]⟩
              case measure => simp [intOf]; omega
          · obtain rfl : j = ln := by omega
            have hfin : L.take j = L := List.take_of_length_le (by rw [HLN.out]; omega)
            rw [hfin, HC.out]
            clear hfin hlk b0 hr6
            have hk6 := hk6.drew
            go_wp2_with fail
            go_region_held3 (fun w' => w'.cell? ⟨w.heap.size, 3, none⟩ = some (.int .i64 p.data)) (go_keep)
              (first
                | (go_at_call 9; have _ := hk8; refine (HBM.out _).mono ?_; rintro e w9 ⟨rfl, rfl⟩)
                | (go_at_call 22; have _ := hk7; refine (HN5.out _).mono ?_; rintro e w8 ⟨rfl, hB8⟩; have hk8 := hk7.trans (hB8.mono hk7.size); clear x0 x1 x2 x3 x4; obtain ⟨x0, x1, x2, x3, x4⟩ := HP.out _ hk8)
                | (go_at_call 22; have _ := tk6; refine (HN4.out _).mono ?_; rintro e w7 ⟨rfl, hB7⟩; have hk7 := hk6.trans (hB7.mono hk6.size); clear x0 x1 x2 x3 x4; obtain ⟨x0, x1, x2, x3, x4⟩ := HP.out _ hk7)
                | (go_at_call 9; refine (HBM.out _).mono ?_; rintro e w9 ⟨rfl, rfl⟩; have tk6 := True.intro))
            go_wp2_with fail
            go_ret
            exact ⟨ret_int (by rw [← hall.out]; simp only [IntKind.wrap_i64]; omega), HUP.out _ hk8⟩
  · have e : baseN p = 0 := by unfold baseN; rw [if_neg hz]
    rw [e]
    have hzb : (poolChk p != 0) = true := by simp [hz]
    clear hz e
    go_enter Try.func11, Try.ntmps11
    go_wp2_with (go_at_call 21; refine (HCK.out _ (HUP.out _ hk0)).mono ?_; rintro e w2 ⟨rfl, hB2⟩; have hk2 := hk0.trans (hB2.mono hk0.size))
    go_ret
    exact ⟨rfl, HUP.out _ hk2⟩
end Go.Proofs.Ytooffkhdanimbaa
