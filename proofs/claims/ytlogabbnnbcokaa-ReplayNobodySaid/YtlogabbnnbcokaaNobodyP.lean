/- Parts of a write, torn one behind the other, are the write. No condition: no program is in sight here. -/
import Derived.Test.YtlogabbnnbcokaaWFew51
namespace Go.Proofs.Ytlogabbnnbcokaa
open Go.RowKit

theorem wrF_same {bs : List UInt8} {k : Int} (h : 0 ≤ k ∧ k < (bs.length : Int) / 256) : wrF bs k (blkOf bs k.toNat) = bs := by
  have hl : k.toNat * 256 + 256 ≤ bs.length := by omega
  unfold wrF
  rw [if_pos ⟨h, blkOf_len hl⟩]
  unfold blkOf
  rw [List.append_assoc, show k.toNat * 256 + 256 = k.toNat * 256 + 256 from rfl, ← List.drop_drop, List.take_append_drop, List.take_append_drop]
theorem tornF_none (l : List Wr) (bs : List UInt8) (n : Int) : tornF l bs n 0 = doF l bs (List.range (withinN n l.length).toNat) := by
  unfold tornF
  by_cases hc : (withinN n l.length).toNat = l.length ∨ (nth wr0 l (withinN n l.length).toNat).bytes.length ≠ 256 ∨ ¬ hasB bs.length (nth wr0 l (withinN n l.length).toNat).no
  · rw [if_pos hc]
  · rw [if_neg hc]
    have hh : hasB bs.length (nth wr0 l (withinN n l.length).toNat).no := Classical.byContradiction fun h => hc (.inr (.inr h))
    have e : ∀ b x, tornB b x 0 = b := fun b x => by
      have hk : withinN 0 256 = 0 := by unfold withinN; omega
      unfold tornB; rw [hk]; simp
    rw [e, wrF_same (by rw [doF_len]; exact hh)]
/-- Which number u1 hands on. -/
def u1N (n : Int) (m : Nat) : Int := (if (if n < 0 then 0 else n) ≥ (m : Int) then (m : Int) - 1 else (if n < 0 then 0 else n)) + 1
theorem tornF_all (l : List Wr) (bs : List UInt8) (n : Int) : tornF l bs n 256 = doF l bs (List.range (withinN (u1N n l.length) l.length).toNat) := by
  unfold tornF
  obtain ⟨m, hm, hml⟩ : ∃ m : Nat, withinN n l.length = m ∧ m ≤ l.length := withinN_nat n l.length
  rw [hm, Int.toNat_natCast]
  by_cases h1 : m = l.length
  · rw [if_pos (.inl h1)]
    have : withinN (u1N n l.length) l.length = l.length := by unfold withinN u1N at *; split <;> omega
    rw [this, Int.toNat_natCast, h1]
  · have : withinN (u1N n l.length) l.length = (m + 1 : Nat) := by
      unfold withinN u1N at *
      split <;> (try split) <;> omega
    rw [this, Int.toNat_natCast, List.range_succ, doF_snoc]
    by_cases h2 : (nth wr0 l m).bytes.length = 256
    · by_cases h3 : hasB bs.length (nth wr0 l m).no
      · rw [if_neg (by rintro (h | h | h); exact h1 h; exact h h2; exact h h3)]
        congr 1
        have hk : withinN 256 256 = 256 := by unfold withinN; omega
        unfold tornB
        rw [hk, List.take_of_length_le (by rw [h2]; omega), List.drop_of_length_le]
        · simp
        · rw [blkOf_len]
          · omega
          · rw [doF_len]; unfold hasB at h3; omega
      · rw [if_pos (.inr (.inr h3))]
        unfold wrF
        rw [if_neg (by rw [doF_len]; intro h; exact h3 h.1)]
    · rw [if_pos (.inr (.inl h2))]
      unfold wrF
      rw [if_neg (fun h => h2 h.2)]
theorem doF_none (bs : List UInt8) : doF [] bs (List.range (withinN 0 (([] : List Wr).length : Nat)).toNat) = bs := rfl
end Go.Proofs.Ytlogabbnnbcokaa
