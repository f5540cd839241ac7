/- The program's images and the reference's hold the same bytes, whatever is written. No condition: no program is in sight here. -/
import Derived.Test.YtlogabbnnbcokaaWRefT
namespace Go.Proofs.Ytlogabbnnbcokaa
open Go.RowKit

set_option maxRecDepth 100000 in
theorem flat_set {B : List (List UInt8)} (h : Good B) {j : Nat} (hj : j < B.length) (b : List UInt8) : (B.set j b).flatten = B.flatten.take (j * 256) ++ b ++ B.flatten.drop (j * 256 + 256) := by
  have h2 : B.flatten.drop (j * 256 + 256) = (B.drop (j + 1)).flatten := by rw [← flat_drop h (j + 1) (by omega)]; congr 1; omega
  have h3 : B.flatten.take (j * 256) = (B.take j).flatten := by
    have hg : Good (B.take j) := ⟨fun x hx => h.1 x (List.mem_of_mem_take hx), by rw [List.length_take]; have := h.2; omega⟩
    have hl := hg.flat
    rw [List.length_take, Nat.min_eq_left (by omega)] at hl
    have e : B.flatten = (B.take j).flatten ++ (B.drop j).flatten := by rw [← List.flatten_append, List.take_append_drop]
    rw [e, List.take_append_of_le_length (by omega), List.take_of_length_le (by omega)]
  have e2 : B.set j b = B.take j ++ b :: B.drop (j + 1) := by
    rw [List.set_eq_take_append_cons_drop, if_pos hj]
  rw [e2, h2, h3]
  simp
theorem wrF_flat {B : List (List UInt8)} (h : Good B) (k : Int) (b : List UInt8) : wrF B.flatten k b = (wrB B k b).flatten := by
  have hl := h.flat
  have hd : ((B.flatten.length : Nat) : Int) / 256 = (B.length : Int) := by rw [hl]; omega
  unfold wrF wrB
  rw [hd]
  by_cases hc : (0 ≤ k ∧ k < (B.length : Int)) ∧ b.length = 256
  · rw [if_pos hc, if_pos hc, flat_set h (by omega)]
  · rw [if_neg hc, if_neg hc]
theorem doF_flat {l : List Wr} : ∀ (js : List Nat) {B : List (List UInt8)}, Good B → doF l B.flatten js = (doB l B js).flatten := by
  intro js
  induction js with
  | nil => intro B _; rfl
  | cons k js ih =>
    intro B h
    have e1 : doF l B.flatten (k :: js) = doF l (wrF B.flatten (nth wr0 l k).no (nth wr0 l k).bytes) js := rfl
    have e2 : doB l B (k :: js) = doB l (wrB B (nth wr0 l k).no (nth wr0 l k).bytes) js := rfl
    rw [e1, e2, wrF_flat h, ih (wrB_good h _ _)]
theorem tornF_flat {l : List Wr} {B : List (List UInt8)} (h : Good B) (n k : Int) : tornF l B.flatten n k = (rtornB l B n k).flatten := by
  have hl := h.flat
  have hd : ∀ x : Int, hasB B.flatten.length x ↔ (0 ≤ x ∧ x < (B.length : Int)) := fun x => by unfold hasB; rw [hl]; omega
  have hg := doB_good (l := l) h (List.range (withinN n l.length).toNat)
  unfold tornF rtornB
  rw [doF_flat _ h]
  by_cases hc : (withinN n l.length).toNat = l.length ∨ (nth wr0 l (withinN n l.length).toNat).bytes.length ≠ 256 ∨ ¬ (0 ≤ (nth wr0 l (withinN n l.length).toNat).no ∧ (nth wr0 l (withinN n l.length).toNat).no < (B.length : Int))
  · rw [if_pos hc, if_pos (by simpa only [hd] using hc)]
  · rw [if_neg hc, if_neg (by simpa only [hd] using hc)]
    have hno : 0 ≤ (nth wr0 l (withinN n l.length).toNat).no ∧ (nth wr0 l (withinN n l.length).toNat).no < (B.length : Int) := Classical.byContradiction fun h => hc (.inr (.inr h))
    rw [blkOf_flat hg (by rw [doB_len]; omega), wrF_flat hg]
set_option maxRecDepth 100000 in
theorem good_chunk (b : List UInt8) : Good (chunk b (blocksN b.length)) := by
  obtain ⟨h1, h2⟩ := blocksN_le b.length
  refine ⟨fun x hx => ?_, by rw [chunk_len]; exact h2⟩
  obtain ⟨k, hk, rfl⟩ := List.mem_map.1 hx
  rw [List.mem_range] at hk
  exact blkOf_len (by omega)
set_option maxRecDepth 100000 in
theorem chunk_flatten (b : List UInt8) : ∀ n, n * 256 ≤ b.length → (chunk b n).flatten = b.take (n * 256) := by
  intro n
  induction n with
  | zero => intro _; simp [chunk]
  | succ n ih =>
    intro h
    rw [chunk_succ, List.flatten_append, ih (by omega)]
    simp only [List.flatten_cons, List.flatten_nil, List.append_nil]
    unfold blkOf
    rw [show (n + 1) * 256 = n * 256 + 256 by omega, List.take_add]
theorem ofs_same (b : List UInt8) : b.take (blocksN b.length * 256) = (chunk b (blocksN b.length)).flatten := (chunk_flatten b _ (blocksN_le b.length).1).symm
end Go.Proofs.Ytlogabbnnbcokaa
