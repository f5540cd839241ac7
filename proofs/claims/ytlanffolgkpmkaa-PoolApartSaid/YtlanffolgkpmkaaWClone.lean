/- slices.Clone at ints, mappings and devices. Condition: the slice is within the reach. -/
import Derived.Test.YtlanffolgkpmkaaWRefs
import Derived.Test.YtlanffolgkpmkaaPool
import Derived.Test.YtlanffolgkpmkaaCells
namespace Go.Proofs.Ytlanffolgkpmkaa
open Go.RowKit
theorem info_int : (Try.prog.info? 3).map (fun i => (i.zero, i.size, i.bytes)) = some (some (.int .i64 0), 1, 8) := by kernel_rfl
theorem info_map : (Try.prog.info? 37).map (fun i => (i.zero, i.size, i.bytes)) = some (some (.agg #[.int .i64 0, .int .i64 0, .int .i64 0]), 3, 24) := by kernel_rfl
theorem info_dev : (Try.prog.info? 35).map (fun i => (i.zero, i.size, i.bytes)) = some (some (.agg #[.int .i64 0, .int .i64 0, .int .i64 0, .int .i64 0, .slice none 0 0]), 5, 56) := by kernel_rfl
/-- Blocks of S, and new ones. -/
def Or_ (S : Nat → Prop) (B B' : Nat) : Nat → Prop := fun b => S b ∨ (B ≤ b ∧ b < B')

set_option maxHeartbeats 400000 in
theorem cloneInts (w : World) (S : Nat → Prop) (v : Value) (l : List Int) (h : IsInts w S v l) (hn : l.length ≤ 5864062014805) :
    Calls Try.prog 40 #[v] w fun e w' => ∃ v', e = .returned v' ∧ IsInts w' (Btw w.heap.size w'.heap.size) v' l ∧ Below w.heap.size w w' := by
  obtain ⟨A, c, rfl, hc, hr⟩ := h
  have heq := Lib.run_eql_slice_nil (P := Try.prog) w 27 3 A l.length c 0 0 Try.underlying27
  cases A with
  | none =>
    have hl : l = [] := by
      rcases Nat.eq_zero_or_pos l.length with h0 | h0
      · exact List.eq_nil_of_length_eq_zero h0
      · obtain ⟨_, _, e, _⟩ := hr h0
        cases e
    subst hl
    simp only [List.length_nil] at heq ⊢
    go_enter Try.func40, Try.ntmps40
    go_wp2
    go_ret
    exact ⟨_, rfl, IsSl.nil_, Below.refl _ _⟩
  | some a =>
    obtain ⟨xs, hx, hcl⟩ := some_cellsOf hr
    have hxs : xs = flats encI l := by
      rw [flats_encI]
      apply List.ext_getElem?
      intro j
      by_cases hj : j < l.length
      · obtain ⟨cs, h1, h2, h3⟩ := hx.2 j hj
        obtain rfl : cs = _ := h2
        have := h3 0 (by omega)
        simp at this
        rw [this, nth_get 0 l j hj]; simp [hj]
      · have h1 := hx.1
        rw [List.getElem?_eq_none (by omega), List.getElem?_eq_none (by simp; omega)]
    subst hxs
    go_enter Try.func40, Try.ntmps40
    go_wp2_with (at_builtin; go_loud (refine wpList_append_cells Try.underlying27 info_int rfl (by omega) (by omega) rfl _ _ rfl w.heap.size (.slice (some ⟨w.heap.size, 0, none⟩) 0 0) 0 [] rfl (World.ownsRow_made w #[] 0 (Nat.le_refl _) (by simp [maxLen]) rfl) a l.length c (flats encI l) rfl hx.1 (fun j u hu => by
        have hold := hcl j u hu
        have hlt := World.block_lt_of_cell? _ _ hold
        rw [World.cell?_alloc_lt _ _ _ hlt]; exact hold) (hx.one (fun _ _ cs x h => by obtain rfl : cs = _ := h; intro u hu; simp at hu; subst hu; rfl)) (by omega) (by simp) ?_); intro A' cap' w1 hown hg)
    go_ret
    refine ⟨_, rfl, ?_, ?_⟩
    · have := IsSl.own (enc := encI) (d := (0 : Int)) (l := l) encI_len (by simpa using hown) (by omega)
      exact this
    · exact ((Below.refl _ w).alloc (Nat.le_refl _) _).grown hg (by simp) (fun k hk => by simp [Value.ownBlock] at hk; omega)

theorem own_isl {α : Type} {R : Rel α} {size : Nat} {d : α} {w : World} {S S' : Nat → Prop} {l : List α} {xs : List Value} {base e : Nat} {v : Value} (h : w.ownsRow base e size v l.length xs) (hc : CellsOf R size d w S l xs) (hR : Stable R) (hs : ∀ b, S b → S' b) (hb : ∀ b, base ≤ b → b < w.heap.size → S' b) :
    IsSl R size d w S' v l := IsSl.ownCells h rfl hc hs hb hR
theorem rmp_one : ∀ (w : World) (S : Nat → Prop) cs x, RMp w S cs x → ∀ u ∈ cs, u.oneCell' = true := fun _ _ cs x h => by obtain rfl : cs = _ := h; exact Mp.enc_one x
theorem rdev_one : ∀ (w : World) (S : Nat → Prop) cs x, RDev w S cs x → ∀ u ∈ cs, u.oneCell' = true := by
  rintro _ _ cs x ⟨A, c, rfl, _⟩ u hu
  simp at hu
  rcases hu with rfl | rfl | rfl | rfl | rfl <;> rfl

set_option maxHeartbeats 400000 in
theorem cloneMaps (w : World) (S : Nat → Prop) (v : Value) (l : List Mp) (hS : ∀ b, S b → b < w.heap.size) (h : IsSl RMp 3 mp0 w S v l) (hn : l.length ≤ 2199023255552) :
    Calls Try.prog 32 #[v] w fun e w' => ∃ v', e = .returned v' ∧ IsSl RMp 3 mp0 w' (Or_ S w.heap.size w'.heap.size) v' l ∧ (∀ S', (∀ b, w.heap.size ≤ b → b < w'.heap.size → S' b) → (∀ b, S b → S' b) → IsSl RMp 3 mp0 w' S' v' l) ∧ Below w.heap.size w w' ∧ ∃ xs, w'.ownsRow w.heap.size 37 3 v' l.length xs ∧ CellsOf RMp 3 mp0 w' S l xs := by
  obtain ⟨A, c, rfl, hc, hr⟩ := h
  have heq := Lib.run_eql_slice_nil (P := Try.prog) w 33 37 A l.length c 0 0 Try.underlying33
  cases A with
  | none =>
    have hl : l = [] := by
      rcases Nat.eq_zero_or_pos l.length with h0 | h0
      · exact List.eq_nil_of_length_eq_zero h0
      · obtain ⟨_, _, e, _⟩ := hr h0
        cases e
    subst hl
    simp only [List.length_nil] at heq ⊢
    go_enter Try.func32, Try.ntmps32
    go_wp2
    go_ret
    exact ⟨_, rfl, IsSl.nil_, fun _ _ _ => IsSl.nil_, Below.refl _ _, [], World.ownsRow_nil _ _ _ _, by simp, fun k hk => by simp at hk⟩
  | some a =>
    obtain ⟨xs, hx, hcl⟩ := some_cellsOf hr
    go_enter Try.func32, Try.ntmps32
    go_wp2_with (at_builtin; go_loud (refine wpList_append_cells Try.underlying33 info_map rfl (by omega) (by omega) rfl _ _ rfl w.heap.size (.slice (some ⟨w.heap.size, 0, none⟩) 0 0) 0 [] rfl (World.ownsRow_made w #[] 0 (Nat.le_refl _) (by simp [maxLen]) rfl) a l.length c xs rfl hx.1 (fun j u hu => by
        have hold := hcl j u hu
        have hlt := World.block_lt_of_cell? _ _ hold
        rw [World.cell?_alloc_lt _ _ _ hlt]; exact hold) (hx.one rmp_one) (by omega) (by simp) ?_); intro A' cap' w1 hown hg)
    go_ret
    have hB : Below w.heap.size w w1 := ((Below.refl _ w).alloc (Nat.le_refl _) _).grown hg (by simp) (fun k hk => by simp [Value.ownBlock] at hk; omega)
    have hx1 := hx.keep rmp_stable (fun _ h => h) (keep_below hB hS)
    have hown' : w1.ownsRow w.heap.size 37 3 (.slice A' l.length cap') l.length xs := by simpa using hown
    refine ⟨.slice A' l.length cap', ?_, ?_, ?_, hB, xs, hown', hx1⟩
    · simp
    · exact own_isl hown' hx1 rmp_stable (fun _ h => .inl h) (fun b h1 h2 => .inr ⟨h1, h2⟩)
    · exact fun S' h1 h2 => own_isl hown' hx1 rmp_stable h2 h1

set_option maxHeartbeats 400000 in
theorem cloneDevs (w : World) (S : Nat → Prop) (v : Value) (l : List Dev) (hS : ∀ b, S b → b < w.heap.size) (h : IsSl RDev 5 dev0 w S v l) (hn : l.length ≤ 2199023255552) :
    Calls Try.prog 31 #[v] w fun e w' => ∃ v', e = .returned v' ∧ IsSl RDev 5 dev0 w' (Or_ S w.heap.size w'.heap.size) v' l ∧ (∀ S', (∀ b, w.heap.size ≤ b → b < w'.heap.size → S' b) → (∀ b, S b → S' b) → IsSl RDev 5 dev0 w' S' v' l) ∧ Below w.heap.size w w' ∧ ∃ xs, w'.ownsRow w.heap.size 35 5 v' l.length xs ∧ CellsOf RDev 5 dev0 w' S l xs := by
  obtain ⟨A, c, rfl, hc, hr⟩ := h
  have heq := Lib.run_eql_slice_nil (P := Try.prog) w 22 35 A l.length c 0 0 Try.underlying22
  cases A with
  | none =>
    have hl : l = [] := by
      rcases Nat.eq_zero_or_pos l.length with h0 | h0
      · exact List.eq_nil_of_length_eq_zero h0
      · obtain ⟨_, _, e, _⟩ := hr h0
        cases e
    subst hl
    simp only [List.length_nil] at heq ⊢
    go_enter Try.func31, Try.ntmps31
    go_wp2
    go_ret
    exact ⟨_, rfl, IsSl.nil_, fun _ _ _ => IsSl.nil_, Below.refl _ _, [], World.ownsRow_nil _ _ _ _, by simp, fun k hk => by simp at hk⟩
  | some a =>
    obtain ⟨xs, hx, hcl⟩ := some_cellsOf hr
    go_enter Try.func31, Try.ntmps31
    go_wp2_with (at_builtin; go_loud (refine wpList_append_cells Try.underlying22 info_dev rfl (by omega) (by omega) rfl _ _ rfl w.heap.size (.slice (some ⟨w.heap.size, 0, none⟩) 0 0) 0 [] rfl (World.ownsRow_made w #[] 0 (Nat.le_refl _) (by simp [maxLen]) rfl) a l.length c xs rfl hx.1 (fun j u hu => by
        have hold := hcl j u hu
        have hlt := World.block_lt_of_cell? _ _ hold
        rw [World.cell?_alloc_lt _ _ _ hlt]; exact hold) (hx.one rdev_one) (by omega) (by simp) ?_); intro A' cap' w1 hown hg)
    go_ret
    have hB : Below w.heap.size w w1 := ((Below.refl _ w).alloc (Nat.le_refl _) _).grown hg (by simp) (fun k hk => by simp [Value.ownBlock] at hk; omega)
    have hx1 := hx.keep rdev_stable (fun _ h => h) (keep_below hB hS)
    have hown' : w1.ownsRow w.heap.size 35 5 (.slice A' l.length cap') l.length xs := by simpa using hown
    refine ⟨.slice A' l.length cap', ?_, ?_, ?_, hB, xs, hown', hx1⟩
    · simp
    · exact own_isl hown' hx1 rdev_stable (fun _ h => .inl h) (fun b h1 h2 => .inr ⟨h1, h2⟩)
    · exact fun S' h1 h2 => own_isl hown' hx1 rdev_stable h2 h1
end Go.Proofs.Ytlanffolgkpmkaa
