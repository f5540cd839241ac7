/- slices.Clone at bytes. Condition: the slice is within the reach. -/
import Derived.Test.YtlogabbnnbcokaaProg
import Derived.Test.YtlogabbnnbcokaaBytes
namespace Go.Proofs.Ytlogabbnnbcokaa
open Go.RowKit
theorem info_u8 : (Try.prog.info? 5).map (fun i => (i.zero, i.size, i.bytes)) = some (some (.int .u8 0), 1, 1) := by kernel_rfl
set_option maxHeartbeats 400000 in
theorem cloneBytes (w : World) (S : Nat → Prop) (v : Value) (l : List UInt8) (_hS : ∀ b, S b → b < w.heap.size) (h : IsBytes w S v l) (hn : l.length ≤ 140737488355328) :
    Calls Try.prog 18 #[v] w fun e w' => ∃ A c, e = .returned (.slice A l.length c) ∧ w'.ownsRow w.heap.size 5 1 (.slice A l.length c) l.length (flats encB l) ∧ Below w.heap.size w w' := by
  obtain ⟨A, c, rfl, hc, hr⟩ := h
  have heq := Lib.run_eql_slice_nil (P := Try.prog) w 22 5 A l.length c 0 0 Try.underlying22
  cases A with
  | none =>
    have hl : l = [] := by
      rcases Nat.eq_zero_or_pos l.length with h0 | h0
      · exact List.eq_nil_of_length_eq_zero h0
      · obtain ⟨_, _, e, _⟩ := hr h0
        cases e
    subst hl
    simp only [List.length_nil] at heq ⊢
    go_enter Try.func18, Try.ntmps18
    go_wp2
    go_ret
    exact ⟨none, 0, rfl, World.ownsRow_nil _ _ _ _, Below.refl _ _⟩
  | some a =>
    obtain ⟨xs, hx, hcl⟩ := some_cellsOf hr
    have hxs : xs = flats encB l := by
      apply List.ext_getElem?
      intro i
      by_cases hi : i < l.length
      · obtain ⟨cs, _, e1, e2⟩ := hx.2 i hi
        obtain rfl : cs = _ := e1
        have := e2 0 (by omega)
        rw [Nat.mul_one, Nat.add_zero] at this
        rw [this, flats_encB, List.getElem?_map, List.getElem?_eq_getElem hi, nth_get 0 l i hi]
        rfl
      · rw [List.getElem?_eq_none (by rw [hx.1]; omega), List.getElem?_eq_none (by rw [flatsB_len]; omega)]
    subst hxs
    generalize hln : l.length = n at *
    have HLN := Lib.hid hln
    clear hln
    go_enter Try.func18, Try.ntmps18
    go_wp2_with (at_builtin; go_loud (refine wpList_append_cells Try.underlying22 info_u8 rfl (by omega) (by omega) rfl _ _ rfl w.heap.size (.slice (some ⟨w.heap.size, 0, none⟩) 0 0) 0 [] rfl (World.ownsRow_made w #[] 0 (Nat.le_refl _) (by simp [maxLen]) rfl) a n c (flats encB l) rfl (by rw [flatsB_len, HLN.out]; omega) (fun j u hu => by
        have hold := hcl j u hu
        have hlt := World.block_lt_of_cell? _ _ hold
        rw [World.cell?_alloc_lt _ _ _ hlt]; exact hold) (flatsB_one l) (by omega) (by simp) ?_); intro A' cap' w1 hown hg)
    go_ret
    have hB : Below w.heap.size w w1 := ((Below.refl _ w).alloc (Nat.le_refl _) _).grown hg (by simp) (fun k hk => by simp [Value.ownBlock] at hk; omega)
    exact ⟨A', cap', by simp, by simpa using hown, hB⟩
theorem cloneBytes_nil (w : World) : Calls Try.prog 18 #[.slice none 0 0] w fun e w' => e = .returned (.slice none 0 0) ∧ w = w' := by
  have heq := Lib.run_eql_slice_nil (P := Try.prog) w 22 5 none 0 0 0 0 Try.underlying22
  go_enter Try.func18, Try.ntmps18
  go_wp2
  go_ret
  exact ⟨rfl, rfl⟩
end Go.Proofs.Ytlogabbnnbcokaa
