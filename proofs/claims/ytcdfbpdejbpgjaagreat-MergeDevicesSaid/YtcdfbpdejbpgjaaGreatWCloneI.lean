/- slices.Clone at ints. Condition: the slice is within the reach. -/
import Derived.Test.YtcdfbpdejbpgjaaGreatCloneB
import Derived.Test.YtcdfbpdejbpgjaaGreatWRefs
namespace Go.Proofs.YtcdfbpdejbpgjaaGreat
open Go.RowKit
set_option maxHeartbeats 400000 in
theorem cloneInts (w : World) (S : Nat → Prop) (v : Value) (l : List Int) (h : IsInts w S v l) (hn : l.length ≤ 5864062014805) :
    Calls Tryz.prog 105 #[v] w fun e w' => ∃ v', e = .returned v' ∧ IsInts w' (Btw w.heap.size w'.heap.size) v' l ∧ Below w.heap.size w w' := by
  obtain ⟨A, c, rfl, hc, hr⟩ := h
  have heq := Lib.run_eql_slice_nil (P := Tryz.prog) w 97 3 A l.length c 0 0 Tryz.underlying97
  cases A with
  | none =>
    have hl : l = [] := by
      rcases Nat.eq_zero_or_pos l.length with h0 | h0
      · exact List.eq_nil_of_length_eq_zero h0
      · obtain ⟨_, _, e, _⟩ := hr h0
        cases e
    subst hl
    simp only [List.length_nil] at heq ⊢
    go_enter Tryz.func105, Tryz.ntmps105
    go_wp2
    go_ret
    exact ⟨_, rfl, IsSl.nil_, Below.refl _ _⟩
  | some a =>
    obtain ⟨xs, hx, hcl⟩ := some_cellsOf hr
    have hxs : xs = flats encI l := by
      rw [flats_encI]
      apply List.ext_getElem?
      intro j
      by_cases hj : j < l.length
      · obtain ⟨cs, h1, h2, h3⟩ := hx.2 j hj
        obtain rfl : cs = _ := h2
        have := h3 0 (by omega)
        simp at this
        rw [this, nth_get 0 l j hj]; simp [hj]
      · have h1 := hx.1
        rw [List.getElem?_eq_none (by omega), List.getElem?_eq_none (by simp; omega)]
    subst hxs
    go_enter Tryz.func105, Tryz.ntmps105
    go_wp2_with (at_builtin; go_loud (refine wpList_append_cells Tryz.underlying97 info_int rfl (by omega) (by omega) rfl _ _ rfl w.heap.size (.slice (some ⟨w.heap.size, 0, none⟩) 0 0) 0 [] rfl (World.ownsRow_made w #[] 0 (Nat.le_refl _) (by simp [maxLen]) rfl) a l.length c (flats encI l) rfl hx.1 (fun j u hu => by
        have hold := hcl j u hu
        have hlt := World.block_lt_of_cell? _ _ hold
        rw [World.cell?_alloc_lt _ _ _ hlt]; exact hold) (hx.one (fun _ _ cs x h => by obtain rfl : cs = _ := h; intro u hu; simp at hu; subst hu; rfl)) (by omega) (by simp) ?_); intro A' cap' w1 hown hg)
    go_ret
    refine ⟨_, rfl, ?_, ?_⟩
    · have := IsSl.own (enc := encI) (d := (0 : Int)) (l := l) encI_len (by simpa using hown) (by omega)
      exact this
    · exact ((Below.refl _ w).alloc (Nat.le_refl _) _).grown hg (by simp) (fun k hk => by simp [Value.ownBlock] at hk; omega)

end Go.Proofs.YtcdfbpdejbpgjaaGreat
