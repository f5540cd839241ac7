/- slices.SortFunc at mappings by merge.order: a permutation, in order. No condition. -/
import Derived.Test.YtecnkeakmedgnaaSortB
import Derived.Test.YtecnkeakmedgnaaSortL
import Derived.Test.YtecnkeakmedgnaaWOrder
namespace Go.Proofs.Ytecnkeakmedgnaa
open Go.RowKit Go.Shelf Go.Sort

def cfV (x y : Mp) : Int := cmpI x.v y.v
theorem ltV (x y : Mp) : ltOf cfV x y = decide (x.v < y.v) := by
  unfold ltOf cfV
  rw [Bool.eq_iff_iff]
  simp [cmpI_lt]
theorem swoV : SWO (ltOf cfV) where
  irrefl x := by rw [ltV]; simp
  trans x y z h1 h2 := by rw [ltV] at *; simp at *; omega
  ntrans x y z h1 h2 := by rw [ltV] at *; simp at *; omega
theorem order_lays (w : World) (blk off size : Nat) : CmpLays Try.prog 22 #[] Mp.enc 3 cfV blk off size w := fun m os dk _ x y => by
  refine (order_any _ x y).mono ?_
  rintro e w' ⟨rfl, rfl⟩
  exact ⟨rfl, 0, _, by rw [alloc_eq_grow, alloc_eq_grow, grow_grow]; rfl⟩
def SortIs (l : List Mp) (base : Nat) (A : Option Addr) (n c : Nat) (w : World) (e : Ending) (w' : World) : Prop :=
  ∃ l', l'.Perm l ∧ (∀ i j, i < j → j < l'.length → (nth mp0 l' i).v ≤ (nth mp0 l' j).v) ∧ e = .returned (.tuple #[]) ∧ w'.ownsRow base 41 3 (.slice A n c) n (flats Mp.enc l') ∧ Below base w w'
theorem sort_any (w : World) (base : Nat) (A : Option Addr) (n c : Nat) (l : List Mp) (hown : w.ownsRow base 41 3 (.slice A n c) n (flats Mp.enc l)) (hl : l.length = n) (hn : n < 4611686018427387904) :
    Calls Try.prog 21 #[.slice A n c, .func (.func 22) #[] #[]] w (SortIs l base A n c w) := by
  rcases Nat.eq_zero_or_pos n with h0 | h0
  · subst h0
    obtain rfl : l = [] := List.eq_nil_of_length_eq_zero hl
    have h := AnyF.slices_SortFunc_none sortMaps A c (.func (.func 22) #[] #[]) w
    refine Calls.mono (show Calls Try.prog 21 _ _ _ from h) ?_
    rintro e w' ⟨rfl, rfl⟩
    exact ⟨[], List.Perm.refl _, fun i j _ h => by simp at h, rfl, hown, Below.refl _ _⟩
  · obtain ⟨g, cap, hv, hg1, hg2, _⟩ := own_form hown h0
    injection hv with e1 e2 e3
    subst e1 e3
    have h := AnyQ.slices_SortFunc sortMaps 3 Try.isAgg41 Try.sizeOf41 Mp.enc Mp.enc_len Mp.enc_one cfV swoV 22 #[] g 0 c l.toArray w (enters_of Try.func22 (by kernel_rfl) rfl) (order_lays w g 0 _) (own_holds hown hl) hg2 (by simpa [hl] using hn)
    have h2 : Calls Try.prog 21 #[.slice (some ⟨g, 0, none⟩) l.toArray.size c, .func (.func 22) #[] #[]] w _ := h
    rw [List.size_toArray, hl] at h2
    refine h2.mono ?_
    rintro e w' ⟨rfl, d', m, os, hp, hs, rfl⟩
    obtain ⟨l', rfl⟩ : ∃ l', d' = l'.toArray := ⟨d'.toList, by simp⟩
    obtain ⟨p1, _, p3⟩ := hp
    simp only [List.size_toArray] at p1
    have hl' : l'.length = n := by omega
    obtain ⟨o1, o2⟩ := own_sorted (l' := l') hown hl hl' m os
    refine ⟨l', ?_, fun i j hij hj => ?_, rfl, o1, o2⟩
    · rw [← hl] at p3
      simpa [List.take_of_length_le, hl, hl'] using p3
    · have := hs i j (Nat.zero_le _) hij (by omega)
      rw [ltV, mpget l' i (by omega), mpget l' j hj] at this
      simpa using this
end Go.Proofs.Ytecnkeakmedgnaa
