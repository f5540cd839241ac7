/- merge.check: the first error of lists. Condition: the slices are within the reach. -/
import Derived.Test.YtecnkeakmedgnaaWWithout
namespace Go.Proofs.Ytecnkeakmedgnaa
open Go.RowKit Go.Shelf
attribute [local go_sem] Oper.semAt_some

def chkAll : List (List Mp) → Int
  | [] => 0
  | l :: r => if chk l ≠ 0 then chk l else chkAll r
set_option maxHeartbeats 800000 in
theorem mcheck_any (w : World) (S : Nat → Prop) (G n c : Nat) (V : Nat → Value) (ls : List (List Mp)) (hn : ls.length = n) (hn2 : n ≤ 2) (hG : G < w.heap.size) (hS : ∀ b, S b → b < w.heap.size) (hc : ∀ k, k < n → w.cell? ⟨G, k, none⟩ = some (V k)) (h : ∀ k, k < n → IsMaps w S (V k) (nth [] ls k)) (hl1 : ∀ k, k < n → (nth [] ls k).length ≤ 140737488355328) :
    Calls Try.prog 18 #[.slice (some ⟨G, 0, none⟩) n c] w fun e w' => e = .returned (.int .i64 (chkAll ls)) ∧ Below w.heap.size w w' := by
  have HC := Lib.hid hc
  have HK := Lib.hid (fun k hk w' (hB : Below w.heap.size w w') => proChk w' S (V k) (nth [] ls k) (fun b hb => Nat.lt_of_lt_of_le (hS b hb) hB.size) (hl1 k hk) ((h k hk).keep rmp_stable (fun _ h => h) (keep_below hB hS)))
  have HN := Lib.hid hn
  clear hc h hl1 hn
  go_enter Try.func18, Try.ntmps18
  go_wp2_with fail
  go_loopw [8] (fun i wr => ∃ k : Nat, i = .int .i64 k ∧ k ≤ n ∧ Hid (chkAll (ls.drop k) = chkAll ls) ∧ Below w.heap.size w wr) (fun i _ => n - (intOf i).toNat)
  case atStart => exact ⟨0, rfl, by omega, Lib.hid rfl, Below.refl _ _⟩
  case round =>
    obtain ⟨k, rfl, hk, HA, hB⟩ := hrel
    have hz := hB.size
    by_cases hlt : k < n
    · have hki : (k : Int) < (n : Int) := by omega
      have c0 := (hB.cell (p := ⟨G, k, none⟩) hG).trans (HC.out k hlt)
      have hcall := HK.out k hlt wr hB
      have hd := drop_nth [] ls k (by rw [HN.out]; exact hlt)
      have ha := HA.out
      rw [hd] at ha
      simp only [chkAll] at ha
      generalize V k = vk at *
      by_cases h0 : chk (nth [] ls k) = 0
      · rw [if_neg (by simpa using h0)] at ha
        rw [h0] at hcall
        have HA2 := Lib.hid ha
        have HCA := Lib.hid hcall
        clear ha hcall hd h0
        go_wp2_with (go_at_call 15; refine HCA.out.mono ?_; rintro e w5 ⟨rfl, hB5⟩)
        go_roundw
        case rel => exact ⟨k + 1, by go_num, by omega, HA2, hB.trans (hB5.mono hz)⟩
        case measure => simp [intOf]; omega
      · rw [if_pos h0] at ha
        rw [ha] at hcall
        have hne : (chkAll ls != 0) = true := by rw [← ha]; simpa using h0
        have HCA := Lib.hid hcall
        clear ha hcall hd h0
        generalize hr : chkAll ls = r at *
        have HR := Lib.hid hr
        clear hr
        go_wp2_with (go_at_call 15; refine HCA.out.mono ?_; rintro e w5 ⟨rfl, hB5⟩)
        go_ret
        exact ⟨by rw [HR.out]; rfl, hB.trans (hB5.mono hz)⟩
    · obtain rfl : k = n := by omega
      have ha := HA.out
      rw [List.drop_of_length_le (by rw [HN.out]; omega)] at ha
      have HA2 := Lib.hid (show chkAll ls = 0 from ha.symm)
      clear ha
      go_wp2_with fail
      go_ret
      exact ⟨by rw [HA2.out]; rfl, hB⟩
end Go.Proofs.Ytecnkeakmedgnaa
