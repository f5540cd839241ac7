/- What a mapping more does to a pool: it may be still, and needs no fewer blocks. No condition: no program is in sight here. -/
import Derived.Test.YtooffkhdanimbaaSizeQ
namespace Go.Proofs.Ytooffkhdanimbaa
open Go.RowKit

def Dev.plus (d : Dev) (m : Mp) : Dev := ⟨d.id, d.tx, d.made, d.snapped, d.maps ++ [m]⟩
def Pool.plus (p : Pool) (r : Nat) (m : Mp) : Pool := ⟨p.tx, p.time, p.unit, p.data, p.devs.set r ((nth dev0 p.devs r).plus m)⟩

/-! ### Counts -/
def cntB (j : Nat) (ms : List (Nat × Mp)) : Nat := ms.countP (fun x => x.2.b.toNat == j)
theorem bumps_nth : ∀ (ms : List (Nat × Mp)) (l : List Int) (j : Nat), j < l.length → nth 0 (bumps l ms) j = nth 0 l j + cntB j ms := by
  intro ms
  induction ms with
  | nil => intro l j _; simp [bumps, cntB]
  | cons x ms ih =>
    intro l j hj
    have e : bumps l (x :: ms) = bumps (bump l x.2.b) ms := rfl
    rw [e, ih _ _ (by rw [bump_length]; exact hj)]
    unfold bump
    rw [nth_set]
    unfold cntB
    rw [List.countP_cons]
    by_cases h : x.2.b.toNat = j
    · subst h
      rw [if_pos ⟨rfl, hj⟩]
      simp
      omega
    · rw [if_neg (fun h2 => h h2.1)]
      simp [h]
theorem cntG_mono : ∀ (l r : List Int), l.length = r.length → (∀ j, j < l.length → nth 0 l j ≤ nth 0 r j) → cntG 2 l ≤ cntG 2 r := by
  intro l
  induction l with
  | nil => intro r h _; cases r with | nil => exact Int.le_refl _ | cons y r => simp at h
  | cons x l ih =>
    intro r h hj
    cases r with
    | nil => simp at h
    | cons y r =>
      have h0 := hj 0 (by simp)
      rw [nth_cons_zero, nth_cons_zero] at h0
      have h1 := ih r (by simpa using h) (fun j hj' => by have := hj (j + 1) (by simpa using hj'); rwa [nth_cons_succ, nth_cons_succ] at this)
      simp only [cntG]
      split <;> split <;> omega
theorem pairsFrom_set : ∀ (l : List Dev) (i r : Nat) (d : Dev), r < l.length → (nth dev0 l r).maps.Sublist d.maps → (pairsFrom i l).Sublist (pairsFrom i (l.set r d)) := by
  intro l
  induction l with
  | nil => intro i r d h; simp at h
  | cons x l ih =>
    intro i r d h hs
    cases r with
    | zero =>
      rw [nth_cons_zero] at hs
      simp only [List.set_cons_zero, pairsFrom]
      exact (hs.map _).append (List.Sublist.refl _)
    | succ r =>
      rw [nth_cons_succ] at hs
      simp only [List.set_cons_succ, pairsFrom]
      exact (List.Sublist.refl _).append (ih (i + 1) r d (by simpa using h) hs)
theorem refsOf_plus (p : Pool) (r : Nat) (m : Mp) (hr : r < p.devs.length) : cntG 2 (refsOf p) ≤ cntG 2 (refsOf (p.plus r m)) := by
  have hl : (refsOf p).length = (refsOf (p.plus r m)).length := by unfold refsOf Pool.plus; rw [bumps_length, bumps_length]
  refine cntG_mono _ _ hl (fun j hj => ?_)
  have hj1 : j < p.data.toNat := by unfold refsOf at hj; rwa [bumps_length, List.length_replicate] at hj
  unfold refsOf
  rw [bumps_nth _ _ _ (by rw [List.length_replicate]; exact hj1), bumps_nth _ _ _ (by rw [List.length_replicate]; exact hj1)]
  have := (pairsFrom_set p.devs 0 r ((nth dev0 p.devs r).plus m) hr (List.sublist_append_left _ _)).countP_le (p := fun x => x.2.b.toNat == j)
  unfold cntB pairs Pool.plus
  simp only [nth_replicate]
  omega
/-! ### Sums -/
theorem devSum_set : ∀ (l : List Dev) (r : Nat) (d : Dev), r < l.length → (nth dev0 l r).maps.length ≤ d.maps.length → devSum l ≤ devSum (l.set r d) := by
  intro l
  induction l with
  | nil => intro r d h; simp at h
  | cons x l ih =>
    intro r d h hs
    cases r with
    | zero =>
      rw [nth_cons_zero] at hs
      simp only [List.set_cons_zero, devSum]
      have := nodes_mono 2 (m := (x.maps.length : Int)) (n := (d.maps.length : Int)) (by omega)
      omega
    | succ r =>
      rw [nth_cons_succ] at hs
      simp only [List.set_cons_succ, devSum]
      have := ih r d (by simpa using h) hs
      omega
theorem countL_plus : ∀ (l : List Dev) (r : Nat) (d : Dev), r < l.length → d.maps.length = (nth dev0 l r).maps.length + 1 → countL (l.set r d) = countL l + 1 := by
  intro l
  induction l with
  | nil => intro r d h; simp at h
  | cons x l ih =>
    intro r d h hs
    cases r with
    | zero =>
      rw [nth_cons_zero] at hs
      simp only [List.set_cons_zero, countL]
      omega
    | succ r =>
      rw [nth_cons_succ] at hs
      simp only [List.set_cons_succ, countL]
      have := ih r d (by simpa using h) hs
      omega
/-! ### The pool may be still -/
theorem mapChk_snoc {data : Int} {m : Mp} (hm : mapB data m = true) : ∀ (l : List Mp) (last : Int), mapChkFrom data last l = 0 → (if l = [] then last else (nth mp0 l (l.length - 1)).v) < m.v → mapChkFrom data last (l ++ [m]) = 0 := by
  intro l
  induction l with
  | nil =>
    intro last _ h
    rw [if_pos rfl] at h
    simp only [List.nil_append, mapChkFrom]
    rw [if_neg (by simp [hm]), if_neg (by omega)]
  | cons x l ih =>
    intro last h hv
    simp only [List.cons_append, mapChkFrom] at h ⊢
    by_cases h1 : mapB data x = false
    · rw [if_pos h1] at h; cases h
    · rw [if_neg h1] at h ⊢
      by_cases h2 : x.v ≤ last
      · rw [if_pos h2] at h; cases h
      · rw [if_neg h2] at h ⊢
        refine ih _ h ?_
        rw [if_neg (by simp)] at hv
        by_cases hl : l = []
        · subst hl; rw [if_pos rfl]; simpa [nth_cons_zero] using hv
        · rw [if_neg hl]
          have hp : 0 < l.length := List.length_pos_iff.2 hl
          simp only [List.length_cons, Nat.add_sub_cancel] at hv
          obtain ⟨n, hn⟩ : ∃ n, l.length = n + 1 := ⟨l.length - 1, by omega⟩
          rw [hn] at hv ⊢
          rw [nth_cons_succ] at hv
          exact hv
theorem devsChk_set {data : Int} {d : Dev} : ∀ (l : List Dev) (r : Nat) (last : Int), r < l.length → devsChk data last l = 0 → d.id = (nth dev0 l r).id → devB d = devB (nth dev0 l r) → mapChk data d.maps = 0 → devsChk data last (l.set r d) = 0 := by
  intro l
  induction l with
  | nil => intro r last h; simp at h
  | cons x l ih =>
    intro r last hr h hid hdb hmc
    cases r with
    | zero =>
      rw [nth_cons_zero] at hid hdb
      simp only [List.set_cons_zero, devsChk] at h ⊢
      have he : devChk d last = devChk x last := by unfold devChk; rw [hid, hdb]
      rw [he, hmc, hid]
      by_cases h1 : devChk x last ≠ 0
      · rw [if_pos h1] at h; exact absurd h h1
      · rw [if_neg h1] at h ⊢
        by_cases h2 : mapChk data x.maps ≠ 0
        · rw [if_pos h2] at h; exact absurd h h2
        · rw [if_neg h2] at h
          rw [if_neg (by simp)]
          exact h
    | succ r =>
      rw [nth_cons_succ] at hid hdb
      simp only [List.set_cons_succ, devsChk] at h ⊢
      by_cases h1 : devChk x last ≠ 0
      · rw [if_pos h1] at h; exact absurd h h1
      · rw [if_neg h1] at h ⊢
        by_cases h2 : mapChk data x.maps ≠ 0
        · rw [if_pos h2] at h; exact absurd h h2
        · rw [if_neg h2] at h ⊢
          exact ih r _ (by simpa using hr) h hid hdb hmc
/-- The next block behind a device's mappings. -/
theorem plus_ok {p : Pool} {r : Nat} {m : Mp} (h : poolChk p = 0) (hr : r < p.devs.length) (hc : p.count ≤ 2000) (hv : m.v = lastV (nth dev0 p.devs r).maps (nth dev0 p.devs r).maps.length + 1) (hv2 : m.v ≤ 281474976710655) (hb : 0 ≤ m.b ∧ m.b < p.data) (ht : m.t = 0) :
    poolChk (p.plus r m) = 0 ∧ baseN p ≤ baseN (p.plus r m) ∧ 5 ≤ baseN p := by
  obtain ⟨q1, q2, q3⟩ := poolChk_parts h
  have hmc := (devsChk_ok _ _ q3 _ (nth_mem dev0 p.devs r hr)).1
  have hlv : -1 ≤ lastV (nth dev0 p.devs r).maps (nth dev0 p.devs r).maps.length := by
    by_cases h0 : (nth dev0 p.devs r).maps.length = 0
    · rw [h0, lastV_zero]; omega
    · rw [lastV_pos _ (by omega)]
      have := mapChkFrom_ok _ _ hmc _ (nth_mem mp0 (nth dev0 p.devs r).maps ((nth dev0 p.devs r).maps.length - 1) (by omega))
      simp only [mapB, Bool.and_eq_true] at this
      have := (inB_iff.1 this.1).1
      omega
  have hmb : mapB p.data m = true := by
    unfold mapB
    rw [inB_yes (by omega), inB_yes (by omega), inB_yes (by omega)]
    rfl
  have hmc2 : mapChk p.data ((nth dev0 p.devs r).plus m).maps = 0 := by
    unfold mapChk Dev.plus
    refine mapChk_snoc hmb _ _ hmc ?_
    by_cases h0 : (nth dev0 p.devs r).maps = []
    · rw [if_pos h0]; rw [h0] at hv; simp [lastV] at hv; omega
    · rw [if_neg h0]
      rw [lastV_pos _ (List.length_pos_iff.2 h0)] at hv
      omega
  have hcq : (p.plus r m).count = p.count + 1 := countL_plus p.devs r _ hr (by simp [Dev.plus])
  have hq : poolChk (p.plus r m) = 0 := by
    unfold poolChk
    have e1 : headB (p.plus r m) = true := q1
    have e2 : sizeB (p.plus r m) = true := by
      simp only [sizeB, decide_eq_true_eq] at q2 ⊢
      rw [hcq]
      refine ⟨?_, by omega⟩
      show (p.devs.set r _).length ≤ 4096
      rw [List.length_set]
      exact q2.1
    rw [if_neg (by simp [e1]), if_neg (by simp [e2])]
    exact devsChk_set p.devs r (-1) hr q3 rfl rfl hmc2
  refine ⟨hq, ?_, ?_⟩
  · unfold baseN
    rw [if_pos h, if_pos hq]
    unfold baseOk oftenN refsRes
    rw [if_pos h, if_pos hq]
    have h1 : (p.plus r m).devs.length = p.devs.length := by show (p.devs.set r _).length = _; rw [List.length_set]
    have h2 : (p.plus r m).data = p.data := rfl
    rw [h1, h2]
    have h3 := nodes_mono 5 (refsOf_plus p r m hr)
    have h4 := devSum_set p.devs r ((nth dev0 p.devs r).plus m) hr (by simp [Dev.plus])
    have h5 : (p.plus r m).devs = p.devs.set r ((nth dev0 p.devs r).plus m) := rfl
    rw [h5]
    omega
  · unfold baseN
    rw [if_pos h]
    exact (baseOk_bounds h).1
end Go.Proofs.Ytooffkhdanimbaa
