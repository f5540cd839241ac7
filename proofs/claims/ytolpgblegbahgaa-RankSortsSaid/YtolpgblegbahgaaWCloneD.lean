/- slices.Clone at devices. Condition: the slice is within the reach. -/
import Derived.Test.YtolpgblegbahgaaCloneB
namespace Go.Proofs.Ytolpgblegbahgaa
open Go.RowKit
set_option maxHeartbeats 400000 in
theorem cloneDevs (w : World) (S : Nat → Prop) (v : Value) (l : List Dev) (hS : ∀ b, S b → b < w.heap.size) (h : IsSl RDev 5 dev0 w S v l) (hn : l.length ≤ 2199023255552) :
    Calls Try.prog 37 #[v] w fun e w' => ∃ v', e = .returned v' ∧ IsSl RDev 5 dev0 w' (Or_ S w.heap.size w'.heap.size) v' l ∧ (∀ S', (∀ b, w.heap.size ≤ b → b < w'.heap.size → S' b) → (∀ b, S b → S' b) → IsSl RDev 5 dev0 w' S' v' l) ∧ Below w.heap.size w w' ∧ ∃ xs, w'.ownsRow w.heap.size 50 5 v' l.length xs ∧ CellsOf RDev 5 dev0 w' S l xs := by
  obtain ⟨A, c, rfl, hc, hr⟩ := h
  have heq := Lib.run_eql_slice_nil (P := Try.prog) w 29 50 A l.length c 0 0 Try.underlying29
  cases A with
  | none =>
    have hl : l = [] := by
      rcases Nat.eq_zero_or_pos l.length with h0 | h0
      · exact List.eq_nil_of_length_eq_zero h0
      · obtain ⟨_, _, e, _⟩ := hr h0
        cases e
    subst hl
    simp only [List.length_nil] at heq ⊢
    go_enter Try.func37, Try.ntmps37
    go_wp2
    go_ret
    exact ⟨_, rfl, IsSl.nil_, fun _ _ _ => IsSl.nil_, Below.refl _ _, [], World.ownsRow_nil _ _ _ _, by simp, fun k hk => by simp at hk⟩
  | some a =>
    obtain ⟨xs, hx, hcl⟩ := some_cellsOf hr
    go_enter Try.func37, Try.ntmps37
    go_wp2_with (at_builtin; go_loud (refine wpList_append_cells Try.underlying29 info_dev rfl (by omega) (by omega) rfl _ _ rfl w.heap.size (.slice (some ⟨w.heap.size, 0, none⟩) 0 0) 0 [] rfl (World.ownsRow_made w #[] 0 (Nat.le_refl _) (by simp [maxLen]) rfl) a l.length c xs rfl hx.1 (fun j u hu => by
        have hold := hcl j u hu
        have hlt := World.block_lt_of_cell? _ _ hold
        rw [World.cell?_alloc_lt _ _ _ hlt]; exact hold) (hx.one rdev_one) (by omega) (by simp) ?_); intro A' cap' w1 hown hg)
    go_ret
    have hB : Below w.heap.size w w1 := ((Below.refl _ w).alloc (Nat.le_refl _) _).grown hg (by simp) (fun k hk => by simp [Value.ownBlock] at hk; omega)
    have hx1 := hx.keep rdev_stable (fun _ h => h) (keep_below hB hS)
    have hown' : w1.ownsRow w.heap.size 50 5 (.slice A' l.length cap') l.length xs := by simpa using hown
    refine ⟨.slice A' l.length cap', ?_, ?_, ?_, hB, xs, hown', hx1⟩
    · simp
    · exact own_isl hown' hx1 rdev_stable (fun _ h => .inl h) (fun b h1 h2 => .inr ⟨h1, h2⟩)
    · exact fun S' h1 h2 => own_isl hown' hx1 rdev_stable h2 h1
end Go.Proofs.Ytolpgblegbahgaa
