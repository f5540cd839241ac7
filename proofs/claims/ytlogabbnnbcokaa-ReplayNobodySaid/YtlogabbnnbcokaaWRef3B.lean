/- scantlingref03: Bytes, Read, Write. Condition: the blocks have 256 bytes each, and are no more than an image may have. -/
import Derived.Test.YtlogabbnnbcokaaWRef3
import Derived.Lib.AppendStr
namespace Go.Proofs.Ytlogabbnnbcokaa
open Go.RowKit
attribute [local go_sem] Oper.semAt_some

/-- A reference's image that may be read. -/
def IsRef (w : World) (S : Nat → Prop) (a : Nat) (B : List (List UInt8)) : Prop := S a ∧ ∃ A c, w.cell? ⟨a, 0, none⟩ = some (.slice A B.length c) ∧ B.length ≤ c ∧ RowOf (Flat encS) 1 [] w S A B
/-- Blocks as an image has them. -/
def Good (B : List (List UInt8)) : Prop := (∀ b ∈ B, b.length = 256) ∧ B.length ≤ 14400
section
variable {w w' : World} {S S' : Nat → Prop} {a base : Nat} {B : List (List UInt8)}
theorem IsRef.keep (h : IsRef w S a B) (hs : ∀ b, S b → S' b) (hk : Keep S w w') : IsRef w' S' a B := by
  obtain ⟨h0, A, c, h1, h2, h3⟩ := h
  exact ⟨hs a h0, A, c, (hk a 0 h0).trans h1, h2, h3.keep (flat_stable _) hs hk⟩
theorem OwnRef.is (h : OwnRef w base a B) (hS : ∀ b, base ≤ b → b < w.heap.size → S b) : IsRef w S a B := by
  obtain ⟨h0, A, c, h1, h2⟩ := h
  obtain ⟨A', c', e, hc, hr⟩ := IsSl.own (d := ([] : List UInt8)) encS_len h2 (by omega)
  injection e with e1 e2 e3
  subst e1 e3
  exact ⟨hS a h0 h1.lt, A, c, h1.cell, hc, hr.keep (flat_stable _) (fun b hb => hS b hb.1 hb.2) Keep.refl⟩
theorem strs_cells {A : Option Addr} (h : RowOf (Flat encS) 1 [] w S A B) (hl : 0 < B.length) :
    ∃ b off, A = some ⟨b, off, none⟩ ∧ S b ∧ ∀ k, k < B.length → w.cell? ⟨b, off + k, none⟩ = some (.string (strB (nth [] B k))) := by
  obtain ⟨b, off, e, hb, hc⟩ := h hl
  refine ⟨b, off, e, hb, fun k hk => ?_⟩
  obtain ⟨cs, _, hr, h3⟩ := hc k hk
  obtain rfl : cs = _ := hr
  have := h3 0 _ rfl
  simpa using this
end
theorem strCells_strB (l : List UInt8) : Lib.strCells (strB l) = flats encB l := by rw [flats_encB]; rfl
set_option maxRecDepth 100000 in
theorem Good.take {B : List (List UInt8)} (h : Good B) (k : Nat) : (B.take k).flatten.length ≤ k * 256 := by
  induction k with
  | zero => simp
  | succ k ih =>
    by_cases hk : k < B.length
    · rw [take_nth [] B k hk, List.flatten_append, List.length_append]
      have := h.1 _ (nth_mem [] B k hk)
      simp only [List.flatten_cons, List.flatten_nil, List.append_nil]
      omega
    · rw [List.take_of_length_le (by omega)]
      rw [List.take_of_length_le (by omega)] at ih
      omega
theorem Good.flat {B : List (List UInt8)} (h : Good B) : B.flatten.length = B.length * 256 := by
  obtain ⟨h1, _⟩ := h
  induction B with
  | nil => rfl
  | cons b B ih =>
    rw [List.flatten_cons, List.length_append, ih (fun x hx => h1 x (by simp [hx])) , h1 b (by simp), List.length_cons]
    omega
    all_goals simp_all <;> omega
set_option maxHeartbeats 3200000 in
theorem ref3Bytes_any (w : World) (S : Nat → Prop) (a : Nat) (B : List (List UInt8)) (hS : ∀ b, S b → b < w.heap.size) (h : IsRef w S a B) (hg : Good B) :
    Calls Try.prog 12 #[.pointer (some ⟨a, 0, none⟩)] w fun e w' => ∃ A c n, n = B.flatten.length ∧ e = .returned (.slice A n c) ∧ w'.ownsRow w.heap.size 5 1 (.slice A n c) n (flats encB B.flatten) ∧ Below w.heap.size w w' := by
  obtain ⟨h0, A, c, h1, h2, h3⟩ := h
  have hb := hg.2
  have HG := Lib.hid (fun k (hk : k ≤ 14400) => hg.take k)
  have HG1 := Lib.hid hg.1
  obtain ⟨i0, hi0, hz0, hz1, hz2⟩ := info_parts info_u8
  have haS := hS a h0
  clear hg h0
  generalize hnn : B.length = n at *
  have HN := Lib.hid hnn
  clear hnn
  go_enter Try.func12, Try.ntmps12
  go_wp2_with fail
  go_loopw [3, 4] (fun t i wr => ∃ (k m : Nat), i = .int .i64 k ∧ k ≤ n ∧ m = (B.take k).flatten.length ∧ wr.ownsRow w.heap.size 5 1 t m (flats encB (B.take k).flatten) ∧ Below w.heap.size w wr) (fun _ i _ => n - (intOf i).toNat)
  case atStart => exact ⟨0, 0, rfl, by omega, by simp, World.ownsRow_nil _ _ _ _, Below.refl _ _⟩
  case round =>
    obtain ⟨k, m, rfl, hk, hm, hrow, hB⟩ := hrel
    have hce := (hB.cell (p := ⟨a, 0, none⟩) haS).trans h1
    have hml := HG.out k (by omega)
    rw [← hm] at hml
    have HM := Lib.hid hm
    clear hm
    have hz := hB.size
    by_cases hlt : k < n
    · obtain ⟨b, off, rfl, hSb, hcl⟩ := strs_cells (h3.keep (flat_stable _) (fun _ h => h) (keep_below hB hS)) (by rw [HN.out]; omega)
      have q := hcl k (by rw [HN.out]; exact hlt)
      have h256 := HG1.out _ (nth_mem [] B k (by rw [HN.out]; exact hlt))
      have HT := Lib.hid (take_nth [] B k (by rw [HN.out]; exact hlt))
      have hsz := strB_size (nth [] B k)
      have HS := Lib.hid (strCells_strB (nth [] B k))
      rw [h256] at hsz
      have HSZ := Lib.hid hsz
      have HL := Lib.hid h256
      clear hcl h256 hsz
      generalize nth [] B k = y at *
      generalize strB y = sy at *
      obtain ⟨At, ct, rfl, hct⟩ := own_form0 hrow
      go_wp2_with (at_builtin; go_loud (refine Lib.wpList_append_own_string _ rfl _ _ 22 9 rfl w.heap.size 5 i0 Try.underlying22 Try.underlying9 hi0 hz0 hz1 hz2 (.slice At m ct) m (flats encB (B.take k).flatten) rfl hrow sy rfl (by rw [HSZ.out]; unfold maxLen; omega) (by rw [HSZ.out]; omega) hz ?_); intro v5 w5 hown5 hg5 _)
      go_roundw
      case rel => exact ⟨k + 1, m + 256, by go_num, by omega, by rw [HT.out, List.flatten_append, List.length_append, HM.out]; simp [HL.out], by rw [HT.out, List.flatten_append, flats_append]; rw [HS.out, HSZ.out] at hown5; simpa using hown5, hB.grown hg5 hz (fun i hi => (hrow.lt i hi).1)⟩
      case measure => simp [intOf]; omega
    · obtain rfl : k = n := by omega
      have hfin : B.take k = B := List.take_of_length_le (by rw [HN.out]; omega)
      obtain ⟨At, ct, rfl, hct⟩ := own_form0 hrow
      rw [hfin] at hrow HM
      clear hfin
      go_wp2_with fail
      go_ret
      exact ⟨At, ct, m, HM.out, rfl, hrow, hB⟩
end Go.Proofs.Ytlogabbnnbcokaa
