/- scantlinglaw51.few: whether writes are few. Condition: the slices are within the reach. -/
import Derived.Test.YtlogabbnnbcokaaReplayP
namespace Go.Proofs.Ytlogabbnnbcokaa
open Go.RowKit
attribute [local go_sem] Oper.semAt_some

def bytesSum : List Wr → Int
  | [] => 0
  | x :: l => x.bytes.length + bytesSum l
theorem bytesSum_append (l r : List Wr) : bytesSum (l ++ r) = bytesSum l + bytesSum r := by
  induction l with
  | nil => simp [bytesSum]
  | cons x l ih => simp only [List.cons_append, bytesSum, ih]; omega
theorem bytesSum_take (l : List Wr) (k : Nat) (h : k < l.length) : bytesSum (l.take (k + 1)) = bytesSum (l.take k) + (nth wr0 l k).bytes.length := by
  rw [take_nth wr0 l k h, bytesSum_append]; simp [bytesSum]
theorem bytesSum_pos (l : List Wr) : 0 ≤ bytesSum l := by
  induction l with
  | nil => simp [bytesSum]
  | cons x l ih => simp only [bytesSum]; omega
def fewW (l : List Wr) : Bool := decide (l.length ≤ 60 ∧ bytesSum l ≤ 20000)
theorem fewW_bytes {l : List Wr} (h : fewW l = true) (k : Nat) (hk : k < l.length) : (nth wr0 l k).bytes.length ≤ 20000 := by
  simp only [fewW, decide_eq_true_eq] at h
  have h1 := bytesSum_take l k hk
  have h2 := bytesSum_pos (l.take k)
  have h3 : bytesSum l = bytesSum (l.take (k + 1)) + bytesSum (l.drop (k + 1)) := by rw [← bytesSum_append, List.take_append_drop]
  have h4 := bytesSum_pos (l.drop (k + 1))
  omega
set_option maxHeartbeats 1600000 in
theorem few51_any (w : World) (S : Nat → Prop) (v : Value) (l : List Wr) (hl : IsWrs w S v l) (hnl : l.length ≤ 17592186044416) (hlw : ∀ k, k < l.length → (nth wr0 l k).bytes.length ≤ 140737488355328) :
    Calls Try.prog 5 #[v] w fun e w' => e = .returned (.bool (fewW l)) ∧ w = w' := by
  obtain ⟨A, c, rfl, hc, hr⟩ := hl
  obtain ⟨V, hV⟩ := wrs_cells hr
  have HV := Lib.hid hV
  have hb : ∀ k, k ≤ l.length → k ≤ 61 → bytesSum (l.take k) ≤ k * 140737488355328 := by
    intro k
    induction k with
    | zero => intro _ _; simp [bytesSum]
    | succ k ih =>
      intro h1 h2
      rw [bytesSum_take l k (by omega)]
      have := ih (by omega) (by omega)
      have := hlw k (by omega)
      omega
  have HB := Lib.hid hb
  have HLW := Lib.hid hlw
  clear hr hV hb hlw
  generalize hnn : l.length = nl at *
  have HN := Lib.hid hnn
  clear hnn
  have HF := Lib.hid (show fewW l = decide (nl ≤ 60 ∧ bytesSum l ≤ 20000) by unfold fewW; rw [HN.out])
  go_enter Try.func5, Try.ntmps5
  go_wp2_with fail
  go_loop [3, 4] (fun t i => ∃ k : Nat, i = .int .i64 k ∧ k ≤ nl ∧ k ≤ 61 ∧ t = .int .i64 (bytesSum (l.take k))) (fun _ i => nl - (intOf i).toNat)
  case atStart => exact ⟨0, rfl, by omega, by omega, rfl⟩
  case round =>
    obtain ⟨k, rfl, hk, hk2, rfl⟩ := hrel
    have b0 := bytesSum_pos (l.take k)
    have b1 := HB.out k hk hk2
    by_cases hlt : k < nl ∧ k < 61
    · obtain ⟨h1, h2⟩ := hlt
      obtain ⟨lb, lo, rfl, hSl, hat⟩ := HV.out (by omega)
      obtain ⟨c0, c1, _, _⟩ := hat k (by rw [HN.out]; exact h1)
      have HT := Lib.hid (bytesSum_take l k (by rw [HN.out]; exact h1))
      have hx := HLW.out k h1
      clear hat
      generalize (nth wr0 l k).bytes.length = xl at *
      generalize bytesSum (l.take k) = z at *
      go_wp2_with fail
      go_round
      case rel => exact ⟨k + 1, by go_num, by omega, by omega, by rw [HT.out]⟩
      case measure => simp [intOf]; omega
    · by_cases h1 : k < nl
      · have h2 : ¬ k < 61 := fun h => hlt ⟨h1, h⟩
        have h3 : ¬ nl ≤ 60 := by omega
        have HE := Lib.hid (HF.out.trans (by simp [h3] : _ = false))
        have hd : decide (nl ≤ 60) = false := by simp; omega
        clear hlt
        go_wp2_with fail
        go_ret
        exact ⟨ret_bool HE.out.symm, rfl⟩
      · have hfin : l.take k = l := List.take_of_length_le (by rw [HN.out]; omega)
        rw [hfin]
        clear hlt hfin
        generalize bytesSum l = z at *
        by_cases h3 : nl ≤ 60
        · by_cases h4 : z ≤ 20000
          · have HE := Lib.hid (HF.out.trans (by simp [h3, h4] : _ = true))
            go_wp2_with fail
            go_ret
            exact ⟨ret_bool HE.out.symm, rfl⟩
          · have HE := Lib.hid (HF.out.trans (by simp [h4] : _ = false))
            go_wp2_with fail
            go_ret
            exact ⟨ret_bool HE.out.symm, rfl⟩
        · have HE := Lib.hid (HF.out.trans (by simp [h3] : _ = false))
          have hd : decide (nl ≤ 60) = false := by simp; omega
          go_wp2_with fail
          go_ret
          exact ⟨ret_bool HE.out.symm, rfl⟩
end Go.Proofs.Ytlogabbnnbcokaa
