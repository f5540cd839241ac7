/- scantlingref03: Read, Write. Condition: the slices are within the reach. -/
import Derived.Test.YtlogabbnnbcokaaWRef3B
import Derived.Lib.ConvBytes
import Derived.RegionTactic
import Derived.ChangeAlike
namespace Go.Proofs.Ytlogabbnnbcokaa
open Go.RowKit
attribute [local go_sem] Oper.semAt_some

/-- A block that begins with these bytes, and of which all may be written but what stands behind its end. -/
def ByteBlk (w : World) (g : Nat) (b : List UInt8) : Prop := ∃ (cs : Array Value) (zs : List Value), w.heap[g]? = some (.cells cs 5 (cs.size, cs.size + 1)) ∧ cs.toList = flats encB b ++ zs
section
variable {w w' : World} {g : Nat} {b : List UInt8}
theorem ByteBlk.lt (h : ByteBlk w g b) : g < w.heap.size := by obtain ⟨cs, zs, h1, _⟩ := h; exact (Array.getElem?_eq_some_iff.1 h1).1
theorem ByteBlk.cell (h : ByteBlk w g b) {k : Nat} (hk : k < b.length) : w.cell? ⟨g, k, none⟩ = some (.int .u8 ((nth 0 b k).toNat : Int)) := by
  obtain ⟨cs, zs, h1, h2⟩ := h
  rw [cell_of_row w g k cs _ _ h1, ← Array.getElem?_toList, h2, List.getElem?_append_left (by rw [flatsB_len]; exact hk), flats_encB, List.getElem?_map, List.getElem?_eq_getElem hk, nth_get 0 b k hk]
  rfl
theorem ByteBlk.free (h : ByteBlk w g b) {k : Nat} (hk : k < b.length) : w.frozen? ⟨g, k, none⟩ = false := by
  obtain ⟨cs, zs, h1, h2⟩ := h
  have hl : b.length ≤ cs.size := by rw [← Array.length_toList, h2, List.length_append, flatsB_len]; omega
  simp [World.frozen?, h1]
  omega
theorem ByteBlk.isl (h : ByteBlk w g b) {S : Nat → Prop} {c : Nat} (hS : S g) (hc : b.length ≤ c) : IsBytes w S (.slice (some ⟨g, 0, none⟩) b.length c) b :=
  ⟨_, c, rfl, hc, fun _ => ⟨g, 0, rfl, hS, fun k hk => ⟨encB (nth 0 b k), rfl, rfl, fun j u hu => by
    rcases j with _ | j
    · simp [encB] at hu
      subst hu
      simpa using h.cell hk
    · simp [encB] at hu⟩⟩⟩
theorem ByteBlk.below {B : Nat} (h : ByteBlk w g b) (hB : Below B w w') (hg : g < B) : ByteBlk w' g b := by
  obtain ⟨cs, zs, h1, h2⟩ := h
  exact ⟨cs, zs, (hB.block g hg).trans h1, h2⟩
theorem ByteBlk.set (h : ByteBlk w g b) {k : Nat} (hk : k < b.length) (u : UInt8) : ByteBlk (w.setCell ⟨g, k, none⟩ (.int .u8 (u.toNat : Int))) g (b.set k u) := by
  obtain ⟨cs, zs, h1, h2⟩ := h
  refine ⟨cs.setIfInBounds k (.int .u8 (u.toNat : Int)), zs, ?_, ?_⟩
  · simp [World.setCell, Array.getElem?_modify, h1]
  · rw [Array.toList_setIfInBounds, h2, List.set_append_left _ _ (by rw [flatsB_len]; exact hk), flats_encB, flats_encB, List.map_set]
end
theorem byteBlk_new (w : World) (b : List UInt8) : ByteBlk (Lib.bytesWorld w 5 (strB b)) w.heap.size b := by
  refine ⟨Lib.bytesCells w 5 (strB b), List.replicate (grownCap w (strB b).size 0 5 - (strB b).size) (.int .u8 0), Lib.bytesWorld_at_new w _ _, ?_⟩
  unfold Lib.bytesCells
  rw [flats_encB]
  simp [strB]
theorem bytesWorld_below (w : World) (b : List UInt8) : Below w.heap.size w (Lib.bytesWorld w 5 (strB b)) := ⟨rfl, rfl, rfl, by rw [Lib.bytesWorld_size]; omega, fun j hj => Lib.bytesWorld_at_old w _ _ j hj⟩
set_option maxHeartbeats 1600000 in
theorem ref3Read_in (w : World) (S : Nat → Prop) (a k : Nat) (B : List (List UInt8)) (h : IsRef w S a B) (hk : k < B.length) (h256 : (nth [] B k).length = 256) :
    Calls Try.prog 24 #[.pointer (some ⟨a, 0, none⟩), .int .i64 k] w fun e w' => ∃ c, e = .returned (.tuple #[.slice (some ⟨w.heap.size, 0, none⟩) 256 c, .int .i64 0]) ∧ 256 ≤ c ∧ ByteBlk w' w.heap.size (nth [] B k) ∧ Below w.heap.size w w' := by
  obtain ⟨h0, A, c, h1, h2, h3⟩ := h
  obtain ⟨b, off, rfl, hSb, hcl⟩ := strs_cells h3 (by omega)
  have q := hcl k hk
  have hcv := Lib.run_convert_string_bytes (P := Try.prog) w 9 22 5 (strB (nth [] B k)) (u := .string) Try.underlying9 Try.underlying22 Try.underlying5
  have hsz : (strB (nth [] B k)).size = 256 := by rw [strB_size, h256]
  rw [hsz] at hcv
  have hb := byteBlk_new w (nth [] B k)
  have hB := bytesWorld_below w (nth [] B k)
  have hcap : 256 ≤ grownCap w 256 0 5 := grownCap_ge w 256 0 5
  clear hcl h3 hsz h256
  generalize nth [] B k = y at *
  generalize Lib.bytesWorld w 5 (strB y) = w1 at *
  generalize strB y = sy at *
  generalize B.length = n at *
  generalize grownCap w 256 0 5 = cc at *
  go_enter Try.func24, Try.ntmps24
  go_wp2_with fail
  go_ret2
  exact ⟨cc, rfl, hcap, hb, hB⟩
set_option maxHeartbeats 1600000 in
theorem ref3Read_out (w : World) (a n c : Nat) (A : Option Addr) (k : Int) (h : w.cell? ⟨a, 0, none⟩ = some (.slice A n c)) (hk : ¬ (0 ≤ k ∧ k < n)) :
    Calls Try.prog 24 #[.pointer (some ⟨a, 0, none⟩), .int .i64 k] w fun e w' => e = .returned (.tuple #[.slice none 0 0, .int .i64 3]) ∧ w = w' := by
  by_cases h0 : k < 0
  · clear hk
    go_enter Try.func24, Try.ntmps24
    go_wp2_with fail
    go_ret2
    exact ⟨rfl, rfl⟩
  · have h1 : (n : Int) ≤ k := by omega
    have hd0 : decide (k < 0) = false := by simp; omega
    clear hk
    go_enter Try.func24, Try.ntmps24
    go_wp2_with fail
    go_ret2
    exact ⟨rfl, rfl⟩
/-- What a write leaves of blocks. -/
def wrB (B : List (List UInt8)) (k : Int) (b : List UInt8) : List (List UInt8) := if (0 ≤ k ∧ k < (B.length : Int)) ∧ b.length = 256 then B.set k.toNat b else B
theorem wrB_good {B : List (List UInt8)} (h : Good B) (k : Int) (b : List UInt8) : Good (wrB B k b) := by
  unfold wrB
  split
  · rename_i hc
    refine ⟨fun x hx => ?_, by rw [List.length_set]; exact h.2⟩
    rcases List.mem_or_eq_of_mem_set hx with hx | rfl
    · exact h.1 x hx
    · exact hc.2
  · exact h
theorem wrB_len (B : List (List UInt8)) (k : Int) (b : List UInt8) : (wrB B k b).length = B.length := by unfold wrB; split <;> simp
theorem flats_setS (l : List (List UInt8)) (k : Nat) (b : List UInt8) : (flats encS l).set k (.string (strB b)) = flats encS (l.set k b) := by
  induction l generalizing k with
  | nil => rfl
  | cons x l ih =>
    cases k with
    | zero => rfl
    | succ k =>
      have e : ∀ (x : List UInt8) l, flats encS (x :: l) = .string (strB x) :: flats encS l := fun _ _ => rfl
      rw [List.set_cons_succ, e, e, List.set_cons_succ, ih]
/-- What a write leaves: some number, and the blocks B. -/
def WrRef (w : World) (base a : Nat) (B : List (List UInt8)) (e : Ending) (w' : World) : Prop := ∃ n, e = .returned (.int .i64 n) ∧ OwnRef w' base a B ∧ Touched w w' a
set_option maxHeartbeats 3200000 in
theorem ref3Write_any (w : World) (S : Nat → Prop) (base a : Nat) (B : List (List UInt8)) (k : Int) (vb : Value) (b : List UInt8) (h : OwnRef w base a B) (hb : IsBytes w S vb b) :
    Calls Try.prog 22 #[.pointer (some ⟨a, 0, none⟩), .int .i64 k, vb] w (WrRef w base a (wrB B k b)) := by
  have hown := h
  obtain ⟨h0, A, c, h1, h2⟩ := h
  obtain ⟨Ab, cb, rfl, hcb, hrb⟩ := hb
  have hce := h1.cell
  by_cases hk : 0 ≤ k ∧ k < (B.length : Int)
  · obtain ⟨j, rfl⟩ := Int.eq_ofNat_of_zero_le hk.1
    have hj : j < B.length := by omega
    by_cases hbl : b.length = 256
    · have hwr : wrB B j b = B.set j b := by unfold wrB; rw [if_pos ⟨hk, hbl⟩, Int.toNat_natCast]
      obtain ⟨g, cap, hv, hg1, hg2, hnc⟩ := own_form h2 (by omega)
      injection hv with hv1 hv2 hv3
      subst hv1 hv3
      have hne := OwnRef.ne h1 h2 rfl
      have hst := h2.stored j (.string (strB b))
      rw [flats_setS] at hst
      have hq : w.cell? ⟨g, j, none⟩ = some (.string (strB (nth [] B j))) := by
        rw [h2.cellAt j (by omega)]
        have := flats_get (enc := encS) (size := 1) (d := []) encS_len B j 0 (.string (strB (nth [] B j))) hj rfl
        simpa using this
      have hqf := h2.frozenAt j
      have h1' : One (w.setCell ⟨g, j, none⟩ (.string (strB b))) a (.slice (some ⟨g, 0, none⟩) B.length c) 49 := h1.far (p := ⟨g, j, none⟩) (fun e => hne e.symm)
      have hfin : OwnRef (w.setCell ⟨g, j, none⟩ (.string (strB b))) base a (wrB B j b) := ⟨h0, _, c, by rw [hwr, List.length_set]; exact h1', by rw [hwr, List.length_set]; exact hst.1⟩
      have htt : Touched w (w.setCell ⟨g, j, none⟩ (.string (strB b))).drew a := ⟨some g, fun v hv => by rw [h1.cell] at hv; injection hv with hv; rw [← hv]; rfl, ⟨rfl, rfl, rfl, by simp [World.setCell], fun i _ hne => Below.heap_setCell w ⟨g, j, none⟩ _ i (fun e => hne (by rw [e]))⟩, by simp [World.setCell]⟩
      have hcv := conv_bytes (c := cb) 22 5 Try.underlying22 Try.underlying5 (show ByteRow w.drew S Ab b from hrb) 9 Try.underlying9
      have HFIN := Lib.hid hfin
      have HTT := Lib.hid htt
      have hbb : ((b.length : Int) != 256) = false := by rw [hbl]; rfl
      have hbb2 : ((b.length : Int) == 256) = true := by rw [hbl]; rfl
      have hi1 : (0 : Int) ≤ (j : Int) := by omega
      have hi2 : (j : Int) < (B.length : Int) := by omega
      clear hfin htt hst hwr hrb h1' h1 h2 hown hbl hne hk
      generalize strB (nth [] B j) = s0 at *
      generalize strB b = sb at *
      go_enter Try.func22, Try.ntmps22
      go_wp2_with fail
      go_region
      go_wp2_with fail
      go_ret
      exact ⟨0, rfl, HFIN.out, HTT.out⟩
    · have hwr : wrB B j b = B := by unfold wrB; rw [if_neg (fun h => hbl h.2)]
      have HW := Lib.hid hwr
      have HC := Lib.hid hce
      have hbb : ((b.length : Int) != 256) = true := by simp; omega
      have hbb2 : ((b.length : Int) == 256) = false := by simp; omega
      have HH := Lib.hid hown
      clear hwr hrb h1 h2 hown hbl
      generalize b.length = bl at *
      go_enter Try.func22, Try.ntmps22
      go_wp2_with fail
      go_ret
      exact ⟨1, rfl, by rw [HW.out]; exact HH.out, Touched.same HC.out⟩
  · have hwr : wrB B k b = B := by unfold wrB; rw [if_neg (fun h => hk h.1)]
    have HW := Lib.hid hwr
    have HC := Lib.hid hce
    have HH := Lib.hid hown
    by_cases hk0 : k < 0
    · clear hwr hrb h1 h2 hown hk
      go_enter Try.func22, Try.ntmps22
      go_wp2_with fail
      go_ret
      exact ⟨3, rfl, by rw [HW.out]; exact HH.out, Touched.same HC.out⟩
    · have hd0 : decide (k < 0) = false := by simp; omega
      have hk1 : (B.length : Int) ≤ k := by omega
      clear hwr hrb h1 h2 hown hk
      go_enter Try.func22, Try.ntmps22
      go_wp2_with fail
      go_ret
      exact ⟨3, rfl, by rw [HW.out]; exact HH.out, Touched.same HC.out⟩
end Go.Proofs.Ytlogabbnnbcokaa
