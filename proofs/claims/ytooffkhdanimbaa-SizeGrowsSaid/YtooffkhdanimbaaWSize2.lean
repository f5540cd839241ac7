/- scantlingref07.Width, Max, tall.over, scantlingref15.Sizes' length. -/
import Derived.Test.YtooffkhdanimbaaWSize1
import Derived.Test.YtooffkhdanimbaaWRefs
namespace Go.Proofs.Ytooffkhdanimbaa
open Go.RowKit

set_option maxHeartbeats 1600000 in
theorem rwidth_any (w : World) (t : Int) (leaf : Bool) (h : 1 ≤ t ∧ t ≤ 5) : Calls Try.prog 51 #[.int .i64 t, .bool leaf] w fun e w' => e = .returned (.int .i64 (widthN t leaf)) ∧ Below w.heap.size w w' := by
  rcases tree_cases h with rfl | rfl | rfl | rfl | rfl <;> cases leaf <;>
  (go_enter Try.func51, Try.ntmps51
   go_wp2
   go_ret
   exact ⟨by simp [widthN], (Below.refl _ _).alloc (Nat.le_refl _) _⟩)
set_option maxHeartbeats 1600000 in
theorem rmax_any (w : World) (t : Int) (leaf : Bool) (h : 1 ≤ t ∧ t ≤ 5) : Calls Try.prog 44 #[.int .i64 t, .bool leaf] w fun e w' => e = .returned (.int .i64 (maxN t leaf)) ∧ Below w.heap.size w w' := by
  have hw := rwidth_any w t leaf h
  rcases tree_cases h with rfl | rfl | rfl | rfl | rfl <;> cases leaf <;> simp only [widthN] at hw <;>
  (go_enter Try.func44, Try.ntmps44
   go_wp2_with (go_at_call 51; refine hw.mono ?_; rintro e w' ⟨rfl, hB⟩)
   go_ret
   exact ⟨by simp [maxN], hB⟩)
theorem over_any (w : World) (n s : Int) (h0 : 0 ≤ n) (h1 : n ≤ 1073741824) (h2 : 1 ≤ s) (h3 : s ≤ 1073741824) : Calls Try.prog 39 #[.int .i64 n, .int .i64 s] w fun e w' => e = .returned (.int .i64 (overN n s)) ∧ w = w' := by
  have hz : (s == 0) = false := beq_false_of_ne (by omega)
  by_cases hq : 1 < (n + s - 1) / s
  · have e : overN n s = (n + s - 1) / s := by unfold overN; omega
    rw [e]
    go_enter Try.func39, Try.ntmps39
    go_wp2
    go_ret
    exact ⟨rfl, rfl⟩
  · have e : overN n s = 1 := by unfold overN; omega
    rw [e]
    go_enter Try.func39, Try.ntmps39
    go_wp2
    go_ret
    exact ⟨rfl, rfl⟩
theorem elInt : Elem Try.prog 40 3 1 8 encI := ⟨Try.underlying40, ⟨_, (by kernel_rfl : (Try.prog.info? 3).map (fun i => (i.zero, i.size, i.bytes)) = some (some (.int .i64 0), 1, 8)), rfl⟩, by omega, by omega, encI_len, fun x u hu => by simp [encI] at hu; subst hu; rfl⟩
set_option maxHeartbeats 1600000 in
theorem sizes_any (w : World) (n s : Int) (h0 : 0 ≤ n) (h1 : n ≤ 32768) (h2 : 1 ≤ s) (h3 : s ≤ 32768) :
    Calls Try.prog 45 #[.int .i64 n, .int .i64 s] w fun e w' => ∃ A c, e = .returned (.slice A (overN n s).toNat c) ∧ Below w.heap.size w w' := by
  go_enter Try.func45, Try.ntmps45
  go_wp2_with fail
  go_loopw [0, 5] (fun a t wr => ∃ (nn : Int) (xs : List Int) (j : Nat), a = .int .i64 nn ∧ 0 ≤ nn ∧ nn ≤ 32768 ∧ j + nn ≤ 32768 ∧ xs.length = j ∧ overN n s = overN nn s + j ∧ wr.ownsRow w.heap.size 3 1 t j (flats encI xs) ∧ Below w.heap.size w wr) (fun a _ _ => (intOf a).toNat)
  case atStart => exact ⟨n, [], 0, rfl, h0, h1, by omega, rfl, by simp, World.ownsRow_nil _ _ _ _, Below.refl _ _⟩
  case round =>
    obtain ⟨nn, xs, j, rfl, hn0, hn1, hjn, hxs, hov, hrow, hB⟩ := hrel
    have hzw := hB.size
    obtain ⟨At, ct, rfl, hct⟩ := own_form0 hrow
    have HXS := Lib.hid hxs
    have HOV := Lib.hid hov
    clear hxs hov
    by_cases hlt : nn > s
    · have HM := Lib.hid (overN_more (show 0 < s by omega) (show s < nn from hlt))
      go_wp2_with (at_builtin; go_loud (refine wpList_append_one elInt rfl _ _ rfl w.heap.size (.slice At j ct) j xs s rfl hrow rfl (by omega) hzw ?_); intro A6 cap6 w6 hown hg)
      go_roundw
      case rel => exact ⟨nn - s, xs ++ [s], j + 1, rfl, by omega, by omega, by omega, by rw [List.length_append, HXS.out]; rfl, by rw [HOV.out, HM.out]; omega, hown, hB.grown hg hzw (fun i hi => (hrow.lt i hi).1)⟩
      case measure => simp [intOf]; omega
    · have HS := Lib.hid (overN_small (n := nn) (s := s) (by omega) (by omega))
      go_wp2_with (at_builtin; go_loud (refine wpList_append_one elInt rfl _ _ rfl w.heap.size (.slice At j ct) j xs nn rfl hrow rfl (by omega) hzw ?_); intro A6 cap6 w6 hown hg)
      go_ret
      refine ⟨⟨A6, cap6, ?_⟩, hB.grown hg hzw (fun i hi => (hrow.lt i hi).1)⟩
      rw [HOV.out, HS.out, show ((1 : Int) + j).toNat = j + 1 by omega]
      rfl
end Go.Proofs.Ytooffkhdanimbaa
