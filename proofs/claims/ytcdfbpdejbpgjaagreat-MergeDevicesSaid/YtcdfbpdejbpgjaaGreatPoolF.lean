/- What a pool that may be is like, device for device and mapping for mapping. No condition: no program is in sight here. -/
import Derived.Test.YtcdfbpdejbpgjaaGreatWPoolRefs
namespace Go.Proofs.YtcdfbpdejbpgjaaGreat
open Go.RowKit

theorem mapChkFrom_facts (data : Int) : ∀ (l : List Mp) (last : Int), mapChkFrom data last l = 0 →
    (∀ i j, i < j → j < l.length → (nth mp0 l i).v < (nth mp0 l j).v) ∧ (∀ j, j < l.length → last < (nth mp0 l j).v) ∧ (∀ m ∈ l, mapB data m = true) := by
  intro l
  induction l with
  | nil => intro last _; exact ⟨fun i j _ h => by simp at h, fun j h => by simp at h, fun m h => by cases h⟩
  | cons m r ih =>
    intro last h
    simp only [mapChkFrom] at h
    cases h1 : mapB data m with
    | false => rw [if_pos h1] at h; omega
    | true =>
      rw [if_neg (by rw [h1]; simp)] at h
      by_cases h2 : m.v ≤ last
      · rw [if_pos h2] at h; omega
      · rw [if_neg h2] at h
        obtain ⟨i1, i2, i3⟩ := ih m.v h
        refine ⟨fun i j hij hj => ?_, fun j hj => ?_, fun k hk => ?_⟩
        · simp only [List.length_cons] at hj
          cases j with
          | zero => omega
          | succ j =>
            rw [nth_cons_succ]
            cases i with
            | zero => rw [nth_cons_zero]; exact i2 j (by omega)
            | succ i => rw [nth_cons_succ]; exact i1 i j (by omega) (by omega)
        · simp only [List.length_cons] at hj
          cases j with
          | zero => rw [nth_cons_zero]; omega
          | succ j => rw [nth_cons_succ]; have := i2 j (by omega); omega
        · rcases List.mem_cons.1 hk with rfl | hk
          · exact h1
          · exact i3 k hk
theorem devsChk_facts (data : Int) : ∀ (l : List Dev) (last : Int), devsChk data last l = 0 →
    (∀ d ∈ l, last < d.id) ∧ l.Pairwise (fun d e => d.id < e.id) ∧ (∀ d ∈ l, devB d = true ∧ mapChk data d.maps = 0) := by
  intro l
  induction l with
  | nil => intro last _; exact ⟨fun d h => (by cases h), List.Pairwise.nil, fun d h => (by cases h)⟩
  | cons d r ih =>
    intro last h
    simp only [devsChk] at h
    by_cases h1 : devChk d last = 0
    · rw [if_neg (by simpa using h1)] at h
      by_cases h2 : mapChk data d.maps = 0
      · rw [if_neg (by simpa using h2)] at h
        obtain ⟨i1, i2, i3⟩ := ih d.id h
        unfold devChk at h1
        have hb : devB d = true := by
          cases hc : devB d with
          | true => rfl
          | false => rw [if_pos hc] at h1; omega
        rw [if_neg (by rw [hb]; simp)] at h1
        have hlt : last < d.id := by
          rcases Int.lt_or_le last d.id with h | h
          · exact h
          · rw [if_pos h] at h1; omega
        refine ⟨fun e he => ?_, List.pairwise_cons.2 ⟨i1, i2⟩, fun e he => ?_⟩
        · rcases List.mem_cons.1 he with rfl | he
          · exact hlt
          · have := i1 e he; omega
        · rcases List.mem_cons.1 he with rfl | he
          · exact ⟨hb, h2⟩
          · exact i3 e he
      · rw [if_pos h2] at h; exact absurd h h2
    · rw [if_pos h1] at h; exact absurd h h1
theorem pool_data {p : Pool} (h : poolChk p = 0) : 0 ≤ p.data ∧ p.data ≤ 65536 := by
  obtain ⟨h1, _, _⟩ := poolChk_parts h
  unfold headB at h1
  simp only [Bool.and_eq_true, inB_iff] at h1
  exact h1.2.2
theorem pool_ids {p : Pool} (h : poolChk p = 0) : p.devs.Pairwise fun d e => d.id < e.id := (devsChk_facts _ _ _ (poolChk_parts h).2.2).2.1
theorem pool_dev {p : Pool} (h : poolChk p = 0) {d : Dev} (hd : d ∈ p.devs) : (0 ≤ d.id ∧ d.id ≤ 16777215) ∧ (∀ i j, i < j → j < d.maps.length → (nth mp0 d.maps i).v < (nth mp0 d.maps j).v) ∧ ∀ m ∈ d.maps, (0 ≤ m.v ∧ m.v ≤ 281474976710655) ∧ (0 ≤ m.b ∧ m.b < p.data) ∧ (0 ≤ m.t ∧ m.t ≤ 16777215) := by
  obtain ⟨_, _, h3⟩ := poolChk_parts h
  obtain ⟨_, _, i3⟩ := devsChk_facts _ _ _ h3
  obtain ⟨hb, hm⟩ := i3 d hd
  obtain ⟨m1, _, m3⟩ := mapChkFrom_facts _ _ _ hm
  unfold devB at hb
  simp only [Bool.and_eq_true, inB_iff] at hb
  refine ⟨hb.1, m1, fun m hm => ?_⟩
  have := m3 m hm
  unfold mapB at this
  simp only [Bool.and_eq_true, inB_iff] at this
  exact ⟨this.1, ⟨this.2.1.1, by have := this.2.1.2; omega⟩, this.2.2⟩
end Go.Proofs.YtcdfbpdejbpgjaaGreat
