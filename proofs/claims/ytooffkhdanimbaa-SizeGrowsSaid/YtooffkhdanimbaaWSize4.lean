/- tall.Nodes: how many nodes a tree has. Condition: the entries are few. -/
import Derived.Test.YtooffkhdanimbaaWSize3
namespace Go.Proofs.Ytooffkhdanimbaa
open Go.RowKit

theorem levelsUp_facts : ∀ (f : Nat) (k : Int), k.toNat ≤ f → 1 ≤ k → (∀ x ∈ levelsUp k, 1 ≤ x) ∧ sumL (levelsUp k) ≤ 2 * k ∧ (levelsUp k).length ≤ k.toNat := by
  intro f
  induction f with
  | zero => intro k h1 h2; omega
  | succ f ih =>
    intro k h1 h2
    by_cases hk : 1 < k
    · rw [levelsUp_more hk]
      have hl := overN_lt hk
      have hp := overN_pos k 18
      obtain ⟨a, b, c⟩ := ih (overN k 18) (by omega) hp
      have h2' : 2 * overN k 18 ≤ k := by unfold overN; omega
      refine ⟨fun x hx => ?_, ?_, ?_⟩
      · rcases List.mem_cons.1 hx with rfl | hx
        · omega
        · exact a x hx
      · simp only [sumL]; omega
      · simp only [List.length_cons]; omega
    · rw [levelsUp_one hk]
      refine ⟨fun x hx => by simp at hx; omega, by simp [sumL]; omega, by simp; omega⟩
theorem sumL_take_le {l : List Int} (h : ∀ x ∈ l, 1 ≤ x) : ∀ k, k ≤ l.length → 0 ≤ sumL (l.take k) ∧ sumL (l.take k) ≤ sumL l := by
  have hn : ∀ m : List Int, (∀ x ∈ m, 1 ≤ x) → 0 ≤ sumL m := by
    intro m
    induction m with
    | nil => intro _; simp [sumL]
    | cons x m ih => intro hm; simp only [sumL]; have := ih (fun y hy => hm y (by simp [hy])); have := hm x (by simp); omega
  intro k _
  have h1 : sumL l = sumL (l.take k) + sumL (l.drop k) := by rw [← sumL_append, List.take_append_drop]
  have h2 := hn (l.take k) (fun x hx => h x (List.mem_of_mem_take hx))
  have h3 := hn (l.drop k) (fun x hx => h x (List.mem_of_mem_drop hx))
  omega
set_option maxHeartbeats 1600000 in
theorem nodes_any (w : World) (t n : Int) (h : 1 ≤ t ∧ t ≤ 5) (h0 : 0 ≤ n) (h1 : n ≤ 32768) :
    Calls Try.prog 18 #[.int .i64 t, .int .i64 n] w fun e w' => e = .returned (.int .i64 (nodesN t n)) ∧ Below w.heap.size w w' := by
  have hlv := levels_any w t n h h0 h1
  have hb := maxN_bound t true
  have hop := overN_pos n (maxN t true)
  have hol := overN_le h0 (show 1 ≤ maxN t true by omega)
  obtain ⟨f1, f2, f3⟩ := levelsUp_facts _ (overN n (maxN t true)) (Nat.le_refl _) hop
  have hN : nodesN t n = sumL (levelsN t n) := rfl
  have hL : levelsN t n = levelsUp (overN n (maxN t true)) := rfl
  rw [← hL] at f1 f2 f3
  have HF1 := Lib.hid f1
  have HLV := Lib.hid hlv
  rw [hN]
  clear hlv f1 hN hL
  have hs : sumL (levelsN t n) ≤ 65538 := by omega
  have hln : (levelsN t n).length ≤ 32769 := by omega
  clear f2 f3 hop hol hb
  generalize levelsN t n = l at *
  generalize hll : l.length = m at *
  have HL := Lib.hid hll
  clear hll
  go_enter Try.func18, Try.ntmps18
  go_wp2_with (go_at_call 31; refine HLV.out.mono ?_; rintro e w2 ⟨v2, rfl, ⟨A2, c2, rfl, hc2, hr2⟩, hB2⟩; rw [HL.out] at hc2 ⊢)
  go_loop [5, 12] (fun a i => ∃ k : Nat, k ≤ m ∧ i = .int .i64 k ∧ a = .int .i64 (sumL (l.take k))) (fun _ i => m - (intOf i).toNat)
  case atStart => exact ⟨0, by omega, rfl, rfl⟩
  case round =>
    obtain ⟨k, hk, rfl, rfl⟩ := hrel
    obtain ⟨s0, s1⟩ := sumL_take_le HF1.out k (by rw [HL.out]; omega)
    by_cases hlt : k < m
    · obtain ⟨b, off, rfl, hb, hcl⟩ := ints_cells hr2 (by rw [HL.out]; omega)
      have q := hcl k (by rw [HL.out]; exact hlt)
      have HT := Lib.hid (sumL_take l k (by rw [HL.out]; exact hlt))
      have q2 := (sumL_take_le HF1.out (k + 1) (by rw [HL.out]; omega)).2
      have q3 := HF1.out _ (nth_mem 0 l k (by rw [HL.out]; exact hlt))
      rw [HT.out] at q2
      clear hcl
      generalize nth 0 l k = y at *
      generalize sumL (l.take k) = z at *
      go_wp2_with fail
      go_round
      case rel => exact ⟨k + 1, by omega, by go_num, by rw [HT.out]⟩
      case measure => simp [intOf]; omega
    · have hfin : Hid (l.take k = l) := List.take_of_length_le (by rw [HL.out]; omega)
      go_wp2_with fail
      go_ret
      exact ⟨by rw [hfin.out]; rfl, hB2⟩
end Go.Proofs.Ytooffkhdanimbaa
