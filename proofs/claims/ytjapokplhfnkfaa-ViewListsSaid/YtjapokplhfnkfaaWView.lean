/- scantlinglaw38.ViewLists says yes of every pool. Condition: the numbers fit into Go's int, and no slice is longer than the reach. -/
import Derived.Test.YtjapokplhfnkfaaWLives38
import Derived.Test.YtjapokplhfnkfaaWFew
import Derived.Deep.RegionHeld3
namespace Go.Proofs.Ytjapokplhfnkfaa
open Go.RowKit
attribute [local go_sem] Oper.semAt_some

theorem maps_few' {l : List Dev} {k : Nat} (h : k < l.length) : ((nth dev0 l k).maps.length : Int) ≤ countL l := by
  have h1 := countL_take l k h
  have h2 := countL_take_le l (k + 1)
  have h3 := countL_nonneg (l.take k)
  omega
theorem frOf_len (l : List Int) : (frOf l).length ≤ l.length := by
  have := frOf_length l l.length (Nat.le_refl _)
  rwa [List.take_length] at this
set_option maxRecDepth 100000 in
set_option maxHeartbeats 6400000 in
theorem viewLists_walk (w : World) (v1 : Value) (p : Pool) (h1 : IsPool w (Lt w.heap.size) v1 p) (hok : p.ok) :
    Calls Try.prog 3 #[v1] w fun e w' => e = .returned (.bool true) ∧ Below w.heap.size w w' := by
  have hIP0 : ∀ w', Below w.heap.size w w' → IsPool w' (Lt w.heap.size) v1 p := fun w' hB => h1.below hB (fun _ h => h)
  obtain ⟨A, c, rfl, hc, hr⟩ := h1
  have hpb0 : PBox (w.alloc (poolBox p A p.devs.length c)) w.heap.size p A p.devs.length c := PBox.new w p A _ c
  have hB01 : Below w.heap.size w (w.alloc (poolBox p A p.devs.length c)) := (Below.refl _ _).alloc (Nat.le_refl _) _
  generalize hw1 : (w.alloc (poolBox p A p.devs.length c)) = w1 at *
  have hs1 : w1.heap.size = w.heap.size + 1 := by rw [← hw1]; simp
  have HW1 := Lib.hid hw1
  clear hw1 hr hc
  have up : ∀ w', Below w1.heap.size w1 w' → Below w.heap.size w w' := fun w' hB => hB01.trans (hB.mono (by omega))
  have hIP : ∀ w', Below w1.heap.size w1 w' → IsPool w' (Lt w.heap.size) _ p := fun w' hB => hIP0 w' (up w' hB)
  have hlt : ∀ w', Below w1.heap.size w1 w' → ∀ b, Lt w.heap.size b → b < w'.heap.size := fun w' hB b hb => Nat.lt_of_lt_of_le hb (Below.size (up w' hB))
  have hP : ∀ w', Below w1.heap.size w1 w' → _ := fun w' hB => (hpb0.below hB hpb0.lt).cells
  have hfew := fun w' hB => few_any w' (Lt w.heap.size) _ p (hlt w' hB) (hIP w' hB) hok
  have HFP := Lib.hid hfew
  have HUP := Lib.hid up
  have HP := Lib.hid hP
  have hk0 : Below w1.heap.size w1 (w.alloc (poolBox p A p.devs.length c)) := by rw [HW1.out]; exact Below.refl _ _
  dsimp only [poolBox] at hk0
  by_cases hf : fewB p = true
  · have hf1 : fewN p = 1 := by unfold fewN; rw [if_pos hf]
    rw [hf1] at HFP
    simp only [fewB, decide_eq_true_eq] at hf
    obtain ⟨hpn, hpc⟩ := hf
    have hpm : ∀ k, k < p.devs.length → (nth dev0 p.devs k).maps.length ≤ 2000 := fun k hk => by have := maps_few' hk; unfold Pool.count at hpc; omega
    have HLI := Lib.hid (fun w' hB => list_any w' (Lt w.heap.size) _ p (hlt w' hB) (hIP w' hB) hok hpn hpm)
    have HRLI := Lib.hid (fun w' hB => rlist_any w' (Lt w.heap.size) _ p (hlt w' hB) (hIP w' hB) hok hpn hpm)
    have HUS := Lib.hid (fun w' hB => usage_any w' (Lt w.heap.size) _ p (hlt w' hB) (hIP w' hB) hok)
    have HRUS := Lib.hid (fun w' hB => rusage_any w' (Lt w.heap.size) _ p (hlt w' hB) (hIP w' hB) hok)
    have HFR := Lib.hid (fun w' hB => free_any w' (Lt w.heap.size) _ p (hlt w' hB) (hIP w' hB) hok)
    have HRFR := Lib.hid (fun w' hB => rfree_any w' (Lt w.heap.size) _ p (hlt w' hB) (hIP w' hB) hok)
    have hll : (listRes p).length ≤ 200 := Nat.le_trans (listRes_length p) hpn
    have hfl : (frOf (refsRes p)).length ≤ 65536 := Nat.le_trans (frOf_len _) refsRes_length
    clear hpm hf1 hIP hIP0 up hP hfew hpb0 hB01 hlt hok
    generalize listRes p = ll at *
    generalize frOf (refsRes p) = fl at *
    generalize cntG 0 (refsRes p) = u0 at *
    generalize cntG 1 (refsRes p) = u1 at *
    generalize ((refsRes p).length : Int) - u0 = u2 at *
    generalize hln : ll.length = ln at *
    have HLN := Lib.hid hln
    generalize hfn : fl.length = fn at *
    have HFN := Lib.hid hfn
    clear hln hfn
    go_enter Try.func3, Try.ntmps3
    go_wp2_with (go_at_call 4; refine (HFP.out _ hk0).mono ?_; rintro e w2 ⟨rfl, hB2⟩; have hk2 := hk0.trans (hB2.mono hk0.size); obtain ⟨x0, x1, x2, x3, x4⟩ := HP.out _ hk2)
    have hk2d := hk2.drew
    go_region_held3 (fun w' => w'.cell? ⟨w.heap.size, 0, none⟩ = some (.int .i64 p.tx) ∧ w'.cell? ⟨w.heap.size, 1, none⟩ = some (.int .i64 p.time) ∧ w'.cell? ⟨w.heap.size, 2, none⟩ = some (.int .i64 p.unit) ∧ w'.cell? ⟨w.heap.size, 3, none⟩ = some (.int .i64 p.data) ∧ w'.cell? ⟨w.heap.size, 4, none⟩ = some (.slice A p.devs.length c)) (go_keep)
      (first
        | (go_at_call 6; refine (HLI.out _ hk2d).mono ?_; rintro e w3 ⟨v3, rfl, ⟨A3, c3, rfl, hc3, hr3⟩, hB3⟩; rw [HLN.out] at hc3 ⊢; have hk3 := hk2d.trans (hB3.mono hk2d.size); obtain ⟨x0, x1, x2, x3, x4⟩ := HP.out _ hk3)
        | (go_at_call 7; refine (HRLI.out _ hk3).mono ?_; rintro e w4 ⟨v4, rfl, ⟨A4, c4, rfl, hc4, hr4⟩, hB4⟩; rw [HLN.out] at hc4 ⊢; have hk4 := hk3.trans (hB4.mono hk3.size); obtain ⟨x0, x1, x2, x3, x4⟩ := HP.out _ hk4))
    have hr34 := hr3.keep (flat_stable _) (fun _ h => h) (keep_below hB4 (fun b hb => hb.2))
    clear hr3
    go_wp2_with (first
      | (go_at_call 8; refine (HUS.out _ hk4).mono ?_; rintro e w5 ⟨rfl, hB5⟩; have hk5 := hk4.trans (hB5.mono hk4.size); clear x0 x1 x2 x3 x4; obtain ⟨x0, x1, x2, x3, x4⟩ := HP.out _ hk5)
      | (go_at_call 9; refine (HRUS.out _ hk5).mono ?_; rintro e w6 ⟨rfl, hB6⟩; have hk6 := hk5.trans (hB6.mono hk5.size)))
    clear x0 x1 x2 x3 x4
    have hB46 : Below w4.heap.size w4 w6 := hB5.trans (hB6.mono hB5.size)
    have hr36 := hr34.keep (flat_stable _) (fun _ h => h) (keep_below hB46 (fun b hb => by have h1 : b < w3.heap.size := hb.2; have := hB4.size; omega))
    have hr46 := hr4.keep (flat_stable _) (fun _ h => h) (keep_below hB46 (fun b hb => hb.2))
    have hz46 := hB46.size
    have hz34 := hB4.size
    clear hr34 hr4
    go_loopw [11] (fun i wr => ∃ k : Nat, k ≤ ln ∧ i = .int .i64 k ∧ Below w6.heap.size w6 wr) (fun i _ => ln - (intOf i).toNat)
    case atStart => exact ⟨0, by omega, rfl, Below.refl _ _⟩
    case round =>
      obtain ⟨k, hk, rfl, hB⟩ := hrel
      by_cases hlt : k < ln
      · obtain ⟨b3, o3, rfl, hb3, hcl3⟩ := ls_cells (hr36.keep (flat_stable _) (fun _ h => h) (keep_below hB (fun b hb => by have h1 : b < w3.heap.size := hb.2; omega))) (by rw [HLN.out]; omega)
        obtain ⟨b4, o4, rfl, hb4, hcl4⟩ := ls_cells (hr46.keep (flat_stable _) (fun _ h => h) (keep_below hB (fun b hb => by have h1 : b < w4.heap.size := hb.2; omega))) (by rw [HLN.out]; omega)
        obtain ⟨a0, a1, a2, a3⟩ := hcl3 k (by rw [HLN.out]; exact hlt)
        obtain ⟨d0, d1, d2, d3⟩ := hcl4 k (by rw [HLN.out]; exact hlt)
        clear hcl3 hcl4
        generalize nth ls0 ll k = s at *
        go_wp2_with fail
        go_region
        go_wp2_with fail
        refine ⟨⟨k + 1, by omega, by go_num, hB.drew⟩, by simp [intOf]; omega⟩
      · have hk7 := hk6.trans (hB.mono hk6.size)
        obtain ⟨x0, x1, x2, x3, x4⟩ := HP.out _ hk7
        have hk7d := hk7.drew
        obtain ⟨wo, rfl⟩ : ∃ wo : World, wo = wr := ⟨_, rfl⟩
        clear hr36 hr46
        go_wp2_with fail
        go_region_held3 (fun w' => w'.cell? ⟨w.heap.size, 0, none⟩ = some (.int .i64 p.tx) ∧ w'.cell? ⟨w.heap.size, 1, none⟩ = some (.int .i64 p.time) ∧ w'.cell? ⟨w.heap.size, 2, none⟩ = some (.int .i64 p.unit) ∧ w'.cell? ⟨w.heap.size, 3, none⟩ = some (.int .i64 p.data) ∧ w'.cell? ⟨w.heap.size, 4, none⟩ = some (.slice A p.devs.length c)) (go_keep)
          (first
            | (go_at_call 10; refine (HFR.out _ hk7d).mono ?_; rintro e w8 ⟨v8, rfl, ⟨A8, c8, rfl, hc8, hr8⟩, hB8⟩; rw [HFN.out] at hc8 ⊢; have hk8 := hk7d.trans (hB8.mono hk7d.size); obtain ⟨x0, x1, x2, x3, x4⟩ := HP.out _ hk8)
            | (go_at_call 11; refine (HRFR.out _ hk8).mono ?_; rintro e w9 ⟨v9, rfl, ⟨A9, c9, rfl, hc9, hr9⟩, hB9⟩; rw [HFN.out] at hc9 ⊢; have hk9 := hk8.trans (hB9.mono hk8.size); obtain ⟨x0, x1, x2, x3, x4⟩ := HP.out _ hk9))
        have hr89 := hr8.keep (flat_stable _) (fun _ h => h) (keep_below hB9 (fun b hb => hb.2))
        have hz89 := hB9.size
        clear hr8 x0 x1 x2 x3 x4
        go_wp2_with fail
        go_loopw [14] (fun i wr => ∃ k : Nat, k ≤ fn ∧ i = .int .i64 k ∧ Below w9.heap.size w9 wr) (fun i _ => fn - (intOf i).toNat)
        case atStart => exact ⟨0, by omega, rfl, Below.refl _ _⟩
        case round =>
          obtain ⟨j, hj, rfl, hBj⟩ := hrel
          by_cases hjl : j < fn
          · obtain ⟨b8, o8, rfl, hb8, hcl8⟩ := sp_cells (hr89.keep (flat_stable _) (fun _ h => h) (keep_below hBj (fun b hb => by have h1 : b < w8.heap.size := hb.2; omega))) (by rw [HFN.out]; omega)
            obtain ⟨b9, o9, rfl, hb9, hcl9⟩ := sp_cells (hr9.keep (flat_stable _) (fun _ h => h) (keep_below hBj (fun b hb => by have h1 : b < w9.heap.size := hb.2; omega))) (by rw [HFN.out]; omega)
            obtain ⟨a0, a1⟩ := hcl8 j (by rw [HFN.out]; exact hjl)
            obtain ⟨d0, d1⟩ := hcl9 j (by rw [HFN.out]; exact hjl)
            clear hcl8 hcl9
            generalize nth sp0 fl j = s at *
            go_wp2_with fail
            go_region
            go_wp2_with fail
            refine ⟨⟨j + 1, by omega, by go_num, hBj.drew⟩, by simp [intOf]; omega⟩
          · have hk10 := hk9.trans (hBj.mono hk9.size)
            go_wp2_with (go_at_call 5; refine (lives38 _).mono ?_; rintro e w11 ⟨rfl, hB11⟩; have hk11 := hk10.trans (hB11.mono hk10.size))
            go_ret
            exact ⟨rfl, HUP.out _ hk11⟩
  · have hf1 : fewN p = 0 := by unfold fewN; rw [if_neg hf]
    rw [hf1] at HFP
    clear hf hf1 hIP hIP0 up hP hfew hpb0 hB01 hlt
    go_enter Try.func3, Try.ntmps3
    go_wp2_with (first
      | (go_at_call 4; refine (HFP.out _ hk0).mono ?_; rintro e w2 ⟨rfl, hB2⟩; have hk2 := hk0.trans (hB2.mono hk0.size))
      | (go_at_call 5; refine (lives38 _).mono ?_; rintro e w8 ⟨rfl, hB8⟩; have hk8 := hk2.trans (hB8.mono hk2.size)))
    go_ret
    exact ⟨rfl, HUP.out _ hk8⟩
end Go.Proofs.Ytjapokplhfnkfaa
