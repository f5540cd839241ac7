/- A snapshot made, and deleted again. No condition: no program is in sight here. -/
import Derived.Test.YtcdfbpdejbpgjaaGreatModelQ
namespace Go.Proofs.YtcdfbpdejbpgjaaGreat
open Go.RowKit

theorem apply_not {p : Pool} {o : Mop} (h : (applyF p o).1 ≠ 0) : (applyF p o).2 = pool0 := by
  unfold applyF at h ⊢
  by_cases hc : poolChk p = 0
  · rw [if_neg (by simpa using hc)] at h ⊢
    by_cases h1 : (doF p o).1 = 0
    · rw [if_neg (by simpa using h1)] at h; exact absurd rfl h
    · rw [if_pos h1]
  · rw [if_pos hc]
theorem apply_is {p : Pool} {o : Mop} (h : (applyF p o).1 = 0) : poolChk p = 0 ∧ (doF p o).1 = 0 ∧ (applyF p o).2 = (doF p o).2 := by
  unfold applyF at h ⊢
  by_cases hc : poolChk p = 0
  · rw [if_neg (by simpa using hc)] at h ⊢
    by_cases h1 : (doF p o).1 = 0
    · rw [if_neg (by simpa using h1)]; exact ⟨hc, h1, rfl⟩
    · rw [if_pos h1] at h; exact absurd h h1
  · rw [if_pos hc] at h; exact absurd h hc
theorem snap_is {p : Pool} {dev origin : Int} (h : (applyF p ⟨2, dev, origin, 0⟩).1 = 0) :
    poolChk p = 0 ∧ (0 ≤ dev ∧ dev ≤ 16777215) ∧ dhas p dev = false ∧ dhas p origin = true ∧ p.time < 16777215 ∧ (applyF p ⟨2, dev, origin, 0⟩).2 = addF (stampF p (dpos p origin)) dev (nth dev0 p.devs (dpos p origin)).maps := by
  obtain ⟨hc, h1, h2⟩ := apply_is h
  rw [h2]
  have hd : doF p ⟨2, dev, origin, 0⟩ = snapF p ⟨2, dev, origin, 0⟩ := by unfold doF; rw [if_neg (by simp), if_pos rfl]
  rw [hd] at h1 ⊢
  unfold snapF at h1 ⊢
  by_cases c1 : freshE p dev = 0
  · rw [if_neg (by simpa using c1)] at h1 ⊢
    cases hb : dhas p origin with
    | false => rw [if_pos hb] at h1; cases h1
    | true =>
      simp only [hb] at h1 ⊢
      rw [if_neg (by simp)] at h1 ⊢
      by_cases c2 : 4096 ≤ p.devs.length ∨ 16777215 ≤ p.time ∨ 16384 < p.count + (nth dev0 p.devs (dpos p origin)).maps.length
      · rw [if_pos c2] at h1; cases h1
      · rw [if_neg c2]
        obtain ⟨f1, f2⟩ := fresh_ok c1
        exact ⟨hc, f1, f2, trivial, by omega, rfl⟩
  · rw [if_pos c1] at h1; exact absurd h1 c1
theorem addF_pos {p : Pool} {id : Int} {m : List Mp} : dpos (addF p id m) id = dpos p id ∧ dhas (addF p id m) id = true ∧ dpos p id ≤ p.devs.length ∧ nth dev0 (addF p id m).devs (dpos p id) = newDev p id m := by
  have hle : dpos p id ≤ p.devs.length := posK_le
  have hat : nth dev0 (addF p id m).devs (dpos p id) = newDev p id m := by
    show nth dev0 (insAt p.devs (dpos p id) (newDev p id m)) (dpos p id) = _
    rw [nth_insAt dev0 p.devs _ _ _ hle, if_neg (by omega), if_pos rfl]
  have hl : (addF p id m).devs.length = p.devs.length + 1 := insAt_length _ _ _ hle
  refine ⟨(posK_of (d := dev0) (by omega) (fun j hj => ?_) (fun _ => ?_)).symm, (hasK_iff (d := dev0)).2 ⟨dpos p id, by omega, by rw [hat]; rfl⟩, hle, hat⟩
  · show (nth dev0 (insAt p.devs (dpos p id) (newDev p id m)) j).id < id
    rw [nth_insAt dev0 p.devs _ _ _ hle, if_pos hj]
    exact posK_below j hj
  · rw [hat]; exact Int.le_refl _
theorem remove_is {p : Pool} {id : Int} {m : List Mp} (hq : PoolFit (addF p id m)) : applyF (addF p id m) ⟨3, id, 0, 0⟩ = (0, p) := by
  obtain ⟨h1, h2, h3, _⟩ := addF_pos (p := p) (id := id) (m := m)
  have hd : doF (addF p id m) ⟨3, id, 0, 0⟩ = (0, p) := by
    have e : doF (addF p id m) ⟨3, id, 0, 0⟩ = removeF (addF p id m) ⟨3, id, 0, 0⟩ := by unfold doF; rw [if_neg (by simp), if_neg (by simp), if_pos rfl]
    rw [e]
    unfold removeF
    rw [if_neg (by simp only [h2]; simp)]
    simp only [h1]
    show (0, withDevs (addF p id m) (delAt (insAt p.devs (dpos p id) (newDev p id m)) (dpos p id))) = _
    rw [delAt_insAt _ _ _ h3]
    rfl
  unfold applyF
  rw [if_neg (by simpa using fit_iff.2 hq), hd, if_neg (by simp)]
/-- The origin's number is its alone. -/
theorem id_alone {p : Pool} (h : PoolFit p) {i k : Nat} (hi : i < p.devs.length) (hk : k < p.devs.length) (he : (nth dev0 p.devs i).id = (nth dev0 p.devs k).id) : i = k := by
  rcases Nat.lt_trichotomy i k with hlt | rfl | hlt
  · have := h.2.2.2.1 i k hlt hk; omega
  · rfl
  · have := h.2.2.2.1 k i hlt hi; omega
/-- Time and Snapped set back: the pool as it was. -/
theorem stamp_back {p : Pool} {k : Nat} (hk : k < p.devs.length) : (⟨(stampF p k).tx, (stampF p k).time - 1, (stampF p k).unit, (stampF p k).data, (stampF p k).devs.set k (snapped (nth dev0 (stampF p k).devs k) (nth dev0 p.devs k).snapped)⟩ : Pool) = p := by
  have e1 : nth dev0 (stampF p k).devs k = snapped (nth dev0 p.devs k) (p.time + 1) := by
    show nth dev0 (p.devs.set k _) k = _
    unfold nth
    simp [List.getD, hk]
  have e2 : (stampF p k).devs.set k (snapped (nth dev0 (stampF p k).devs k) (nth dev0 p.devs k).snapped) = p.devs := by
    rw [e1]
    show (p.devs.set k _).set k _ = _
    rw [List.set_set]
    show p.devs.set k (nth dev0 p.devs k) = p.devs
    rw [nth_get dev0 p.devs k hk]
    exact List.set_getElem_self hk
  rw [e2]
  have e3 : (stampF p k).time - 1 = p.time := by show p.time + 1 - 1 = p.time; omega
  rw [e3]
  rfl
end Go.Proofs.YtcdfbpdejbpgjaaGreat
