/- refs.New, List over a counter of the call's own. Conditions: the size is within its bounds. -/
import Derived.Test.YtcdfbpdejbpgjaaGreatWCloneI
namespace Go.Proofs.YtcdfbpdejbpgjaaGreat
open Go.RowKit

theorem madeInts (n : Nat) : (madeCells (Value.int .i64 0).cells (n * 1)).toList = flats encI (List.replicate n 0) := by
  rw [flats_encI, List.map_replicate, Nat.mul_one]
  exact toList_madeCells_one _ n

set_option maxRecDepth 100000 in
set_option maxHeartbeats 400000 in
theorem refsNew_any (w : World) (n : Nat) (hn : n ≤ 65536) :
    Calls Tryz.prog 91 #[.int .i64 n] w fun e w' => ∃ rb g, e = .returned (.tuple #[.pointer (some ⟨rb, 0, none⟩), .int .i64 0]) ∧ RefIs w' rb w.heap.size g (List.replicate n 0) ∧ w.heap.size ≤ rb ∧ Below w.heap.size w w' := by
  obtain ⟨i0, hi, hz0, hz1, hz2⟩ := info_parts info_int
  go_enter Tryz.func91, Tryz.ntmps91
  go_wp2_with (at_make; go_loud (refine wpList_make_full _ rfl _ _ 97 rfl w.heap.size 3 i0 (.int .i64 0) 1 Tryz.underlying97 hi hz0 hz1 _ _ _ _ n rfl rfl rfl rfl (by rw [hz2]; omega) (by unfold maxLen; omega) (Nat.le_refl _) ?_); intro w1 hown hg; rw [madeInts] at hown)
  go_ret2
  have hg1 := (hown.lt w.heap.size rfl).2
  have hB : Below w.heap.size w w1 := (Below.refl _ w).grown hg (Nat.le_refl _) (fun k hk => by cases hk)
  refine ⟨w1.heap.size, w.heap.size, rfl, ⟨n, ?_, ?_, Nat.le_refl _, by simp; omega, by omega⟩, by omega, hB.alloc hB.size _⟩
  · rw [List.length_replicate]; exact One.new _ _ _
  · rw [List.length_replicate]; exact hown.alloc _

theorem refsOwn_any (w : World) (rb : Nat) (A : Option Addr) (n c : Nat) (h : w.cell? ⟨rb, 0, none⟩ = some (.slice A n c)) :
    Calls Tryz.prog 106 #[.pointer (some ⟨rb, 0, none⟩)] w fun e w' => e = .returned (.slice A n c) ∧ w = w' := by
  go_enter Tryz.func106, Tryz.ntmps106
  go_wp2
  go_ret
  exact ⟨rfl, rfl⟩

theorem refsList_any (w : World) (rb base g : Nat) (l : List Int) (h : RefIs w rb base g l) (hn : l.length ≤ 65536) :
    Calls Tryz.prog 94 #[.pointer (some ⟨rb, 0, none⟩)] w fun e w' => ∃ v', e = .returned v' ∧ IsInts w' (Btw w.heap.size w'.heap.size) v' l ∧ Below w.heap.size w w' := by
  obtain ⟨cap, h1, h2, h3, h4, h5⟩ := h
  have hc := cloneInts w (Btw base w.heap.size) (.slice (some ⟨g, 0, none⟩) l.length cap) l (IsSl.own (enc := encI) encI_len h2 (by omega)) (by omega)
  have HC := Lib.hid hc
  have q := h1.cell
  clear hc h1 h2
  go_enter Tryz.func94, Tryz.ntmps94
  go_wp2_with (first
    | (go_at_call 106; refine (refsOwn_any _ _ _ _ _ q).mono ?_; rintro e w' ⟨rfl, rfl⟩)
    | (go_at_call 105; refine HC.out.mono ?_; rintro e w2 ⟨v2, rfl, hv2, hB2⟩))
  go_ret
  exact ⟨_, rfl, hv2, hB2⟩
end Go.Proofs.YtcdfbpdejbpgjaaGreat
