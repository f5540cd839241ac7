/- delta.Maps returns the parts of two lists of mappings, or the first error, for any two slices of mappings. -/
import Derived.Test.YtecnkeakmedgnaaWMerge
import Derived.Test.YtecnkeakmedgnaaWChk
import Derived.LoopN
namespace Go.Proofs.Ytecnkeakmedgnaa
open Go.RowKit

def mapsErr (a b : List Mp) : Int := if chk a = 0 then chk b else chk a
def mapsRes (a b : List Mp) : List Pt := if chk a = 0 ∧ chk b = 0 then partsOf a b else []
theorem mapsErr_a {a b : List Mp} (h : ¬ chk a = 0) : mapsErr a b = chk a := by simp [mapsErr, h]
theorem mapsErr_b {a b : List Mp} (h : chk a = 0) : mapsErr a b = chk b := by simp [mapsErr, h]
theorem mapsRes_no {a b : List Mp} (h : ¬ (chk a = 0 ∧ chk b = 0)) : mapsRes a b = [] := by unfold mapsRes; rw [if_neg h]
theorem mapsRes_yes {a b : List Mp} (h : chk a = 0) (k : chk b = 0) : mapsRes a b = partsOf a b := by unfold mapsRes; rw [if_pos ⟨h, k⟩]

set_option maxHeartbeats 1600000 in
theorem proMaps (w : World) (S : Nat → Prop) (va vb : Value) (a b : List Mp) (hS : ∀ b, S b → b < w.heap.size) (ha : IsMaps w S va a) (hb : IsMaps w S vb b) (hn : a.length + b.length ≤ 1099511627776) :
    Calls Try.prog 16 #[va, vb] w fun e w' => ∃ v, e = .returned (.tuple #[v, .int .i64 (mapsErr a b)]) ∧ IsParts w' (Btw w.heap.size w'.heap.size) v (mapsRes a b) ∧ Below w.heap.size w w' := by
  obtain ⟨A, c, rfl, hc, hra⟩ := ha
  obtain ⟨B, d, rfl, hd, hrb⟩ := hb
  generalize hna : a.length = n1 at *
  generalize hnb : b.length = n2 at *
  have HA := Lib.hid hna
  have HB := Lib.hid hnb
  clear hna hnb
  -- the world behind the small slice of slices
  have hW1 : Below w.heap.size w (w.alloc (.cells #[.slice A n1 c, .slice B n2 d] 22)) := (Below.refl _ _).alloc (Nat.le_refl _) _
  have hk1 := Lib.hid (proChk (w.alloc (.cells #[.slice A n1 c, .slice B n2 d] 22)) S (.slice A n1 c) a (fun b hb => by have := hS b hb; simp; omega) (by rw [HA.out]; omega) ⟨A, c, by rw [HA.out], by rw [HA.out]; exact hc, hra.keep rmp_stable (fun _ h => h) (keep_below hW1 hS)⟩)
  have hk2 : ∀ w2, Below (w.heap.size + 1) (w.alloc (.cells #[.slice A n1 c, .slice B n2 d] 22)) w2 → Calls Try.prog 15 #[.slice B n2 d] w2 fun e w' => e = .returned (.int .i64 (chk b)) ∧ Below w2.heap.size w2 w' := fun w2 h2 =>
    proChk w2 S (.slice B n2 d) b (fun b hb => by have := hS b hb; have := h2.size; simp at this; omega) (by rw [HB.out]; omega) ⟨B, d, by rw [HB.out], by rw [HB.out]; exact hd, hrb.keep rmp_stable (fun _ h => h) ((keep_below hW1 hS).trans (keep_below h2 (fun b hb => by have := hS b hb; omega)))⟩
  have HK2 := Lib.hid hk2
  clear hk2
  have hcell : ∀ w2, Below (w.heap.size + 1) (w.alloc (.cells #[.slice A n1 c, .slice B n2 d] 22)) w2 → w2.cell? ⟨w.heap.size, 1, none⟩ = some (.slice B n2 d) := fun w2 h2 => (h2.cell (p := ⟨w.heap.size, 1, none⟩) (by simp)).trans (by simp [World.cell?_alloc_new])
  have HC := Lib.hid hcell
  clear hcell
  by_cases h1 : chk a = 0
  · have hb1 : (chk a != 0) = false := by simp [h1]
    have H1 := Lib.hid h1
    clear h1
    by_cases h2 : chk b = 0
    · have hb2 : (chk b != 0) = false := by simp [h2]
      have H2 := Lib.hid h2
      clear h2
      go_enter Try.func16, Try.ntmps16
      go_wp2_with fail
      refine wp_loop_rounds 3 ?_
      rw [rounds_succ]
      go_wp2_with (go_at_call 15; refine hk1.out.mono ?_; rintro e w2 ⟨rfl, hB2⟩; have hB2' := hB2.mono (B' := w.heap.size + 1) (by simp); have hc1 := HC.out w2 hB2')
      rw [rounds_succ]
      go_wp2_with (go_at_call 15; refine (HK2.out w2 hB2').mono ?_; rintro e w3 ⟨rfl, hB3⟩)
      rw [rounds_succ]
      have hB13 : Below w.heap.size w w3 := hW1.trans ((hB2.mono (by simp)).trans (hB3.mono (by have := hB2.size; simp at this; omega)))
      have hS3 : ∀ b, S b → b < w3.heap.size := fun b hb => by have := hS b hb; have := hB13.size; omega
      have hW4 : Below w.heap.size w (w3.alloc (.cells #[.slice none 0 0] 36)) := hB13.alloc hB13.size _
      have hmg := merge_any (w3.alloc (.cells #[.slice none 0 0] 36)) S w3.heap.size A B c d a b hS3 (by rw [HA.out]; exact hc) (by rw [HB.out]; exact hd)
        (hra.keep rmp_stable (fun _ h => h) (keep_below hW4 hS)) (hrb.keep rmp_stable (fun _ h => h) (keep_below hW4 hS)) (chk_vok H1.out) (chk_vok H2.out) ⟨_, One.new _ _ _, World.ownsRow_nil _ _ _ _⟩ (by rw [HA.out, HB.out]; exact hn)
      rw [HA.out, HB.out] at hmg
      have HM := Lib.hid hmg
      clear hmg hS3
      go_wp2_with (go_at_call 29; refine HM.out.mono ?_; rintro e w5 ⟨rfl, ⟨v5, hO5, hown⟩, hB5⟩; have hO5' := hO5.cell)
      go_ret2
      refine ⟨v5, ret2_int (by rw [mapsErr_b H1.out, H2.out]), ?_, hW4.trans (hB5.mono hB13.size)⟩
      rw [mapsRes_yes H1.out H2.out]
      exact (IsSl.own (d := pt0) Pt.enc_len hown (by omega)).sub rpt_stable (fun b hb => ⟨by have := hB13.size; have := hb.1; omega, hb.2⟩)
    · have hb2 : (chk b != 0) = true := by simp [h2]
      have H2 := Lib.hid h2
      clear h2
      go_enter Try.func16, Try.ntmps16
      go_wp2_with fail
      refine wp_loop_rounds 3 ?_
      rw [rounds_succ]
      go_wp2_with (go_at_call 15; refine hk1.out.mono ?_; rintro e w2 ⟨rfl, hB2⟩; have hB2' := hB2.mono (B' := w.heap.size + 1) (by simp); have hc1 := HC.out w2 hB2')
      rw [rounds_succ]
      go_wp2_with (go_at_call 15; refine (HK2.out w2 hB2').mono ?_; rintro e w3 ⟨rfl, hB3⟩)
      go_ret2
      exact ⟨.slice none 0 0, ret2_int (mapsErr_b H1.out).symm, by rw [mapsRes_no (fun h => H2.out h.2)]; exact IsSl.nil_, hW1.trans ((hB2.mono (by simp)).trans (hB3.mono (by have := hB2.size; simp at this; omega)))⟩
  · have hb1 : (chk a != 0) = true := by simp [h1]
    have H1 := Lib.hid h1
    clear h1
    go_enter Try.func16, Try.ntmps16
    go_wp2_with fail
    refine wp_loop_rounds 3 ?_
    rw [rounds_succ]
    go_wp2_with (go_at_call 15; refine hk1.out.mono ?_; rintro e w2 ⟨rfl, hB2⟩)
    go_ret2
    exact ⟨.slice none 0 0, ret2_int (mapsErr_a H1.out).symm, by rw [mapsRes_no (fun h => H1.out h.1)]; exact IsSl.nil_, hW1.trans (hB2.mono (by simp))⟩
end Go.Proofs.Ytecnkeakmedgnaa
