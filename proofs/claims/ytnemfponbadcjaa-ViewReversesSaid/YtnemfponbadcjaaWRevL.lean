/- scantlinglaw38.ViewReverses says yes of every pool and span. Condition: the numbers fit into Go's int, and no slice is longer than the reach. -/
import Derived.Test.YtnemfponbadcjaaWRev4
import Derived.Test.YtnemfponbadcjaaWLives38P
import Derived.Test.YtnemfponbadcjaaWFew
import Derived.Deep.QuietTactic
import Derived.BigQuiet
namespace Go.Proofs.Ytnemfponbadcjaa
open Go.RowKit
attribute [local go_sem] Oper.semAt_some

set_option maxRecDepth 100000 in
set_option maxHeartbeats 3200000 in
theorem viewReverses_walk (w : World) (v1 : Value) (p : Pool) (f t : Int) (h1 : IsPool w (Lt w.heap.size) v1 p) (hok : p.ok) :
    Calls Try.prog 3 #[v1, .int .i64 f, .int .i64 t] w fun e w' => e = .returned (.bool true) ∧ Below w.heap.size w w' := by
  have hIP0 : ∀ w', Below w.heap.size w w' → IsPool w' (Lt w.heap.size) v1 p := fun w' hB => h1.below hB (fun _ h => h)
  obtain ⟨A, c, rfl, hc, hr⟩ := h1
  have hpb0 : PBox (w.alloc (poolBox p A p.devs.length c)) w.heap.size p A p.devs.length c := PBox.new w p A _ c
  have hB01 : Below w.heap.size w (w.alloc (poolBox p A p.devs.length c)) := (Below.refl _ _).alloc (Nat.le_refl _) _
  generalize hw1 : (w.alloc (poolBox p A p.devs.length c)) = w1 at *
  have hs1 : w1.heap.size = w.heap.size + 1 := by rw [← hw1]; simp
  have HW1 := Lib.hid hw1
  clear hw1 hr hc
  have up : ∀ w', Below w1.heap.size w1 w' → Below w.heap.size w w' := fun w' hB => hB01.trans (hB.mono (by omega))
  have hIP : ∀ w', Below w1.heap.size w1 w' → IsPool w' (Lt w.heap.size) _ p := fun w' hB => hIP0 w' (up w' hB)
  have hlt : ∀ w', Below w1.heap.size w1 w' → ∀ b, Lt w.heap.size b → b < w'.heap.size := fun w' hB b hb => Nat.lt_of_lt_of_le hb (Below.size (up w' hB))
  have hP : ∀ w', Below w1.heap.size w1 w' → _ := fun w' hB => (hpb0.below hB hpb0.lt).cells
  have HFP := Lib.hid (fun w' hB => few_any w' (Lt w.heap.size) _ p (hlt w' hB) (hIP w' hB) hok)
  have HUP := Lib.hid up
  have HP := Lib.hid hP
  have hk0 : Below w1.heap.size w1 (w.alloc (poolBox p A p.devs.length c)) := by rw [HW1.out]; exact Below.refl _ _
  dsimp only [poolBox] at hk0
  by_cases hf : fewB p = true
  · have hf1 : fewN p = 1 := by unfold fewN; rw [if_pos hf]
    rw [hf1] at HFP
    have HRV := Lib.hid (fun w' hB => reverse_any w' (Lt w.heap.size) _ p f t (hlt w' hB) (hIP w' hB) hok)
    have HRR := Lib.hid (fun w' hB => rreverse_any w' (Lt w.heap.size) _ p f t (hlt w' hB) (hIP w' hB) hok)
    unfold RevIs at HRV
    unfold RRevIs at HRR
    have HEQ := Lib.hid (show ∀ l r : List Bk, (revE p f t = 0 → l.Perm (rawP f t p) ∧ l.Pairwise (fun x y => aheadB y x = false)) ∧ (revE p f t ≠ 0 → l = []) → (revE p f t = 0 → r.Perm (rawP f t p) ∧ r.Pairwise (fun x y => aheadB y x = false)) ∧ (revE p f t ≠ 0 → r = []) → r = l from fun l r hl hr => by
      by_cases hz : revE p f t = 0
      · have hc : poolChk p = 0 := by
          unfold revE at hz
          by_cases h : poolChk p = 0
          · exact h
          · rw [if_pos h] at hz; exact hz
        exact rev_one hc (hr.1 hz).1 (hl.1 hz).1 (hr.1 hz).2 (hl.1 hz).2
      · rw [hl.2 hz, hr.2 hz])
    clear hf1 hf hIP hIP0 up hP hpb0 hB01 hlt hok
    generalize revE p f t = re at *
    generalize rawP f t p = raw at *
    go_enter Try.func3, Try.ntmps3
    go_wp2_with (first
      | (go_at_call 5; refine (HFP.out _ hk0).mono ?_; rintro e w2 ⟨rfl, hB2⟩; have hk2 := hk0.trans (hB2.mono hk0.size); obtain ⟨x0, x1, x2, x3, x4⟩ := HP.out _ hk2; clear hk0)
      | (go_at_call 7; refine (HRV.out _ hk2).mono ?_; rintro e w3 ⟨A3, c3, l3, rfl, ho3, hB3, hl3⟩; have hk3 := hk2.trans (hB3.mono hk2.size); clear x0 x1 x2 x3 x4; obtain ⟨x0, x1, x2, x3, x4⟩ := HP.out _ hk3; clear hB2)
      | (go_at_call 8; refine (HRR.out _ hk3).mono ?_; rintro e w4 ⟨A4, c4, l4, rfl, ho4, hB4, hl4⟩; have hE := HEQ.out _ _ hl3 hl4; subst hE; have hk4 := hk3.trans (hB4.mono hk3.size); clear x0 x1 x2 x3 x4))
    have hz34 := hB4.size
    have ho34 := own_below' ho3 hB4 (fun g hg => (ho3.lt g hg).2)
    have hlm : l4.length ≤ 9223372036854775807 := by
      rcases ho4.2 with ⟨_, h⟩ | ⟨_, _, _, _, _, _, h1, h2, _⟩
      · omega
      · unfold maxLen at h2; omega
    clear hl3 hl4 ho3 HEQ
    generalize hln : l4.length = ln at *
    have HLN := Lib.hid hln
    clear hln
    go_loopw [11] (fun i wr => ∃ k : Nat, k ≤ ln ∧ i = .int .i64 k ∧ Below w4.heap.size w4 wr) (fun i _ => ln - (intOf i).toNat)
    case atStart => exact ⟨0, by omega, rfl, Below.refl _ _⟩
    case round =>
      obtain ⟨k, hk, rfl, hB⟩ := hrel
      have hk5 := hk4.trans (hB.mono hk4.size)
      by_cases hlt : k < ln
      · have hr3 := own_below' ho34 hB (fun g hg => (ho34.lt g hg).2)
        have hr4 := own_below' ho4 hB (fun g hg => (ho4.lt g hg).2)
        obtain ⟨g3, cap3, hv3, _⟩ := own_form hr3 (by omega)
        injection hv3 with v1 v2 v3
        subst v1 v3
        obtain ⟨g4, cap4, hv4, _⟩ := own_form hr4 (by omega)
        injection hv4 with v4 v5 v6
        subst v4 v6
        obtain ⟨a0, a1, a2, a3⟩ := own4B hr3 hlt HLN.out
        obtain ⟨d0, d1, d2, d3⟩ := own4B hr4 hlt HLN.out
        clear hr3 hr4 ho4 ho34
        generalize nth bk0 l4 k = s at *
        go_wp2_with fail
        go_quiet (fail)
        go_wp2_with fail
        refine ⟨⟨k + 1, by omega, by go_num, (hB.trans ⟨rfl, rfl, rfl, Nat.le_refl _, fun _ _ => rfl⟩)⟩, by simp [intOf]; omega⟩
      · clear ho4 ho34
        go_wp2_with (go_at_call 6; refine (lives38 _).mono ?_; rintro e w11 ⟨rfl, hB11⟩; have hk11 := hk5.trans (hB11.mono hk5.size))
        go_ret
        exact ⟨rfl, HUP.out _ hk11⟩
  · have hf1 : fewN p = 0 := by unfold fewN; rw [if_neg hf]
    rw [hf1] at HFP
    clear hf hf1 hIP hIP0 up hP hpb0 hB01 hlt
    go_enter Try.func3, Try.ntmps3
    go_wp2_with (first
      | (go_at_call 5; refine (HFP.out _ hk0).mono ?_; rintro e w2 ⟨rfl, hB2⟩; have hk2 := hk0.trans (hB2.mono hk0.size))
      | (go_at_call 6; refine (lives38 _).mono ?_; rintro e w8 ⟨rfl, hB8⟩; have hk8 := hk2.trans (hB8.mono hk2.size)))
    go_ret
    exact ⟨rfl, HUP.out _ hk8⟩
end Go.Proofs.Ytnemfponbadcjaa
