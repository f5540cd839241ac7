/- scantlinglaw39.DeltaDevices says yes of any two devices of any pool. Condition: the numbers fit into Go's int, and no slice is longer than the reach. -/
import Derived.Test.YtobklchhlfhpjaaWDevs
namespace Go.Proofs.Ytobklchhlfhpjaa
open Go.RowKit

set_option maxRecDepth 100000 in
set_option maxHeartbeats 3200000 in
theorem deltaDevices_walk (w : World) (v1 : Value) (p : Pool) (a b kd : Int) (h1 : IsPool w (Lt w.heap.size) v1 p) (hok : p.ok) :
    Calls Try.prog 3 #[v1, .int .i64 a, .int .i64 b, .int .i64 kd] w fun e w' => e = .returned (.bool true) ∧ Below w.heap.size w w' := by
  have hIP0 : ∀ w', Below w.heap.size w w' → IsPool w' (Lt w.heap.size) v1 p := fun w' hB => h1.below hB (fun _ h => h)
  obtain ⟨A, c, rfl, hc, hr⟩ := h1
  have hpb0 : PBox (w.alloc (poolBox p A p.devs.length c)) w.heap.size p A p.devs.length c := PBox.new w p A _ c
  have hB01 : Below w.heap.size w (w.alloc (poolBox p A p.devs.length c)) := (Below.refl _ _).alloc (Nat.le_refl _) _
  generalize hw1 : (w.alloc (poolBox p A p.devs.length c)) = w1 at *
  have hs1 : w1.heap.size = w.heap.size + 1 := by rw [← hw1]; simp
  have HW1 := Lib.hid hw1
  clear hw1 hr hc
  have up : ∀ w', Below w1.heap.size w1 w' → Below w.heap.size w w' := fun w' hB => hB01.trans (hB.mono (by omega))
  have hIP : ∀ w', Below w1.heap.size w1 w' → IsPool w' (Lt w'.heap.size) _ p := fun w' hB => (hIP0 w' (up w' hB)).keep (fun b (hb : b < w.heap.size) => Nat.lt_of_lt_of_le hb (Below.size (up w' hB))) Keep.refl
  have hP : ∀ w', Below w1.heap.size w1 w' → _ := fun w' hB => (hpb0.below hB hpb0.lt).cells
  have hfew := fun w' hB => few_any w' (Lt w'.heap.size) _ p (fun b hb => hb) (hIP w' hB) hok
  have HFP := Lib.hid hfew
  have HUP := Lib.hid up
  have HP := Lib.hid hP
  have hk0 : Below w1.heap.size w1 (w.alloc (poolBox p A p.devs.length c)) := by rw [HW1.out]; exact Below.refl _ _
  dsimp only [poolBox] at hk0
  by_cases hf : fewB p = true
  · have hf1 : fewN p = 1 := by unfold fewN; rw [if_pos hf]
    rw [hf1] at HFP
    simp only [fewB, decide_eq_true_eq] at hf
    obtain ⟨hpn, hpc⟩ := hf
    have hpm : ∀ k, k < p.devs.length → (nth dev0 p.devs k).maps.length ≤ 2000 := fun k hk => by have := maps_few hk; unfold Pool.count at hpc; omega
    have hd := fun w' hB => devs_any w' _ p a b (hIP w' hB) hok hpn hpm
    have hrd := fun w' hB => rdevs_any w' _ p a b (hIP w' hB) hok hpn hpm
    obtain ⟨hsm, hsl⟩ := devsRes_small (a := a) (b := b) hpm
    have HD := Lib.hid hd
    have HRD := Lib.hid hrd
    clear hd hrd hpm hf1 hIP hIP0 up hP hfew hpb0 hB01
    generalize devsRes p a b = l at *
    generalize devsErr p a b = er at *
    have HSM := Lib.hid hsm
    go_enter Try.func3, Try.ntmps3
    go_wp2_with (first
      | (go_at_call 4; refine (HFP.out _ hk0).mono ?_; rintro e w2 ⟨rfl, hB2⟩; have hk2 := hk0.trans (hB2.mono hk0.size); obtain ⟨x0, x1, x2, x3, x4⟩ := HP.out _ hk2)
      | (go_at_call 6; refine (HD.out _ hk2).mono ?_; rintro e w3 ⟨v3, rfl, hp3, hB3⟩; have hk3 := hk2.trans (hB3.mono hk2.size); clear x0 x1 x2 x3 x4; obtain ⟨x0, x1, x2, x3, x4⟩ := HP.out _ hk3)
      | (go_at_call 7; refine (HRD.out _ hk3).mono ?_; rintro e w4 ⟨v4, rfl, hp4, hB4⟩; have hk4 := hk3.trans (hB4.mono hk3.size); have hq3 := hp3.keep rpt_stable (fun b hb => (Nat.lt_of_lt_of_le hb.2 hB4.size : Lt w4.heap.size b)) (keep_below hB4 (fun b hb => hb.2)); have hq4 := hp4.sub rpt_stable (fun b hb => (hb.2 : Lt w4.heap.size b)); have HQ3 := Lib.hid hq3; have HQ4 := Lib.hid hq4; clear hp3 hp4 hq3 hq4 x0 x1 x2 x3 x4)
      | (go_at_call 8; refine (like_same w4 (Lt w4.heap.size) _ _ l (by omega) HQ3.out HQ4.out).mono ?_; rintro e w5 ⟨rfl, m5, rfl⟩)
      | (go_at_call 9; refine (sum_any (w4.drewN m5) (Lt w4.heap.size) _ l kd 4000 (fun b hb => hb) (HQ3.out.keep rpt_stable (fun _ h => h) (Keep.refl.drewN m5)) HSM.out (by omega) (by omega)).mono ?_; rintro e w6 ⟨rfl, hB6⟩; have hB6' : Below w4.heap.size w4 w6 := ⟨hB6.os, hB6.tape, hB6.output, hB6.size, hB6.block⟩; have hk6 := hk4.trans (hB6'.mono hk4.size))
      | (go_at_call 10; refine (rsum_any w6 (Lt w4.heap.size) _ l kd 4000 (HQ4.out.keep rpt_stable (fun _ h => h) (keep_below hB6' (fun _ h => h))) HSM.out (by omega) (by omega)).mono ?_; rintro e w7 ⟨rfl, rfl⟩)
      | (go_at_call 5; refine (lives39 _).mono ?_; rintro e w8 ⟨rfl, hB8⟩; have hk8 := hk6.trans (hB8.mono hk6.size)))
    go_ret
    exact ⟨rfl, HUP.out _ hk8⟩
  · have hf1 : fewN p = 0 := by unfold fewN; rw [if_neg hf]
    rw [hf1] at HFP
    clear hf hf1 hIP hIP0 up hP hfew hpb0 hB01
    go_enter Try.func3, Try.ntmps3
    go_wp2_with (first
      | (go_at_call 4; refine (HFP.out _ hk0).mono ?_; rintro e w2 ⟨rfl, hB2⟩; have hk2 := hk0.trans (hB2.mono hk0.size))
      | (go_at_call 5; refine (lives39 _).mono ?_; rintro e w8 ⟨rfl, hB8⟩; have hk8 := hk2.trans (hB8.mono hk2.size)))
    go_ret
    exact ⟨rfl, HUP.out _ hk8⟩
end Go.Proofs.Ytobklchhlfhpjaa
