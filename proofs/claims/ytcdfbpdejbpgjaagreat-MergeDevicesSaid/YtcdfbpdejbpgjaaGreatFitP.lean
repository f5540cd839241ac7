/- A pool that may be, said of its parts; it stays one that may be. No condition: no program is in sight here. -/
import Derived.Test.YtcdfbpdejbpgjaaGreatModelP
namespace Go.Proofs.YtcdfbpdejbpgjaaGreat
open Go.RowKit

def MapFit (data : Int) (m : Mp) : Prop := (0 ≤ m.v ∧ m.v ≤ 281474976710655) ∧ (0 ≤ m.b ∧ m.b < data) ∧ 0 ≤ m.t ∧ m.t ≤ 16777215
def DevFit (data : Int) (d : Dev) : Prop := (0 ≤ d.id ∧ d.id ≤ 16777215) ∧ (0 ≤ d.tx ∧ d.tx ≤ 2147483647) ∧ (0 ≤ d.made ∧ d.made ≤ 16777215) ∧ (0 ≤ d.snapped ∧ d.snapped ≤ 16777215) ∧ IncK Mp.v mp0 d.maps ∧ ∀ m ∈ d.maps, MapFit data m
def PoolFit (p : Pool) : Prop := ((0 ≤ p.tx ∧ p.tx ≤ 2147483647) ∧ (0 ≤ p.time ∧ p.time ≤ 16777215) ∧ (1 ≤ p.unit ∧ p.unit ≤ 65536) ∧ 0 ≤ p.data ∧ p.data ≤ 65536) ∧ p.devs.length ≤ 4096 ∧ p.count ≤ 16384 ∧ IncK Dev.id dev0 p.devs ∧ ∀ d ∈ p.devs, DevFit p.data d
theorem mapB_iff {data : Int} {m : Mp} : mapB data m = true ↔ MapFit data m := by
  unfold mapB MapFit
  simp only [Bool.and_eq_true, inB_iff]
  constructor
  · rintro ⟨h1, h2, h3⟩; exact ⟨h1, ⟨h2.1, by omega⟩, h3⟩
  · rintro ⟨h1, h2, h3⟩; exact ⟨h1, ⟨h2.1, by omega⟩, h3⟩
theorem mapChkFrom_zero (data : Int) : ∀ (l : List Mp) (last : Int), IncK Mp.v mp0 l → (∀ m ∈ l, MapFit data m) → (0 < l.length → last < (nth mp0 l 0).v) → mapChkFrom data last l = 0 := by
  intro l
  induction l with
  | nil => intro _ _ _ _; rfl
  | cons m r ih =>
    intro last hi hf hl
    simp only [mapChkFrom]
    have h1 : mapB data m = true := mapB_iff.2 (hf m (by simp))
    have h2 := hl (by simp)
    rw [nth_cons_zero] at h2
    rw [if_neg (by rw [h1]; simp), if_neg (by omega)]
    refine ih m.v (fun i j hij hj => ?_) (fun x hx => hf x (by simp [hx])) (fun h => ?_)
    · have := hi (i + 1) (j + 1) (by omega) (by simp; omega)
      rwa [nth_cons_succ, nth_cons_succ] at this
    · have := hi 0 1 (by omega) (by simp; omega)
      rwa [nth_cons_zero, nth_cons_succ] at this
theorem devsChk_zero (data : Int) : ∀ (l : List Dev) (last : Int), IncK Dev.id dev0 l → (∀ d ∈ l, DevFit data d) → (0 < l.length → last < (nth dev0 l 0).id) → devsChk data last l = 0 := by
  intro l
  induction l with
  | nil => intro _ _ _ _; rfl
  | cons d r ih =>
    intro last hi hf hl
    simp only [devsChk]
    obtain ⟨f1, f2, f3, f4, f5, f6⟩ := hf d (by simp)
    have h2 := hl (by simp)
    rw [nth_cons_zero] at h2
    have hb : devB d = true := by
      unfold devB timesB
      simp only [Bool.and_eq_true, inB_iff, List.all_cons, List.all_nil, Bool.and_true]
      exact ⟨f1, f2, f3, f4⟩
    have h3 : devChk d last = 0 := by unfold devChk; rw [if_neg (by rw [hb]; simp), if_neg (by omega)]
    have h4 : mapChk data d.maps = 0 := mapChkFrom_zero data d.maps (-1) f5 f6 (fun h => by
      have := (f6 _ (nth_mem mp0 d.maps 0 h)).1.1
      omega)
    rw [if_neg (by rw [h3]; simp), if_neg (by rw [h4]; simp)]
    refine ih d.id (fun i j hij hj => ?_) (fun x hx => hf x (by simp [hx])) (fun h => ?_)
    · have := hi (i + 1) (j + 1) (by omega) (by simp; omega)
      rwa [nth_cons_succ, nth_cons_succ] at this
    · have := hi 0 1 (by omega) (by simp; omega)
      rwa [nth_cons_zero, nth_cons_succ] at this
theorem fit_iff {p : Pool} : poolChk p = 0 ↔ PoolFit p := by
  constructor
  · intro h
    refine ⟨pool_head h, ?_, ?_, incK_devs h, fun d hd => ?_⟩
    · obtain ⟨_, h2, _⟩ := poolChk_parts h
      unfold sizeB at h2
      simp only [decide_eq_true_eq] at h2
      exact h2.1
    · obtain ⟨_, h2, _⟩ := poolChk_parts h
      unfold sizeB at h2
      simp only [decide_eq_true_eq] at h2
      exact h2.2
    · obtain ⟨_, _, h3⟩ := poolChk_parts h
      obtain ⟨_, _, i3⟩ := devsChk_facts _ _ _ h3
      obtain ⟨hb, hm⟩ := i3 d hd
      obtain ⟨m1, _, m3⟩ := mapChkFrom_facts _ _ _ hm
      unfold devB timesB at hb
      simp only [Bool.and_eq_true, inB_iff, List.all_cons, List.all_nil, Bool.and_true] at hb
      exact ⟨hb.1, hb.2.1, hb.2.2.1, hb.2.2.2, m1, fun m hm => mapB_iff.1 (m3 m hm)⟩
  · rintro ⟨⟨h1, h2, h3, h4⟩, h5, h6, h7, h8⟩
    unfold poolChk
    have e1 : headB p = true := by
      unfold headB timesB
      simp only [Bool.and_eq_true, inB_iff, List.all_cons, List.all_nil, Bool.and_true]
      exact ⟨⟨h1, h2⟩, h3, h4⟩
    have e2 : sizeB p = true := by unfold sizeB; simp only [decide_eq_true_eq]; exact ⟨h5, h6⟩
    rw [if_neg (by rw [e1]; simp), if_neg (by rw [e2]; simp)]
    exact devsChk_zero p.data p.devs (-1) h7 h8 (fun h => by
      have := (h8 _ (nth_mem dev0 p.devs 0 h)).1.1
      omega)
/-- Put in its place, a key leaves the keys in order. -/
theorem insK {α : Type} {f : α → Int} {d : α} {l : List α} {x : α} (hi : IncK f d l) (hh : hasK f (f x) l = false) : IncK f d (insAt l (posK f (f x) l) x) := by
  have hle : posK f (f x) l ≤ l.length := posK_le
  intro i j hij hj
  rw [insAt_length _ _ _ hle] at hj
  rw [nth_insAt d l _ i x hle, nth_insAt d l _ j x hle]
  generalize hk : posK f (f x) l = k at *
  have lo : ∀ a, a < k → f (nth d l a) < f x := fun a ha => posK_below (d := d) a (by omega)
  have hi2 : ∀ a, k ≤ a → a < l.length → f x < f (nth d l a) := fun a h1 h2 => by
    have h3 := hasK_not hi hh (by omega)
    rw [hk] at h3
    have := hi.mono h1 h2
    omega
  by_cases h1 : j < k
  · rw [if_pos h1, if_pos (by omega)]; exact hi i j hij (by omega)
  · rw [if_neg h1]
    by_cases h2 : j = k
    · rw [if_pos h2, if_pos (by omega)]; exact lo i (by omega)
    · rw [if_neg h2]
      by_cases h3 : i < k
      · rw [if_pos h3]
        have := lo i h3
        have := hi2 (j - 1) (by omega) (by omega)
        omega
      · rw [if_neg h3]
        by_cases h4 : i = k
        · rw [if_pos h4]; exact hi2 (j - 1) (by omega) (by omega)
        · rw [if_neg h4]; exact hi (i - 1) (j - 1) (by omega) (by omega)
theorem delK {α : Type} {f : α → Int} {d : α} {l : List α} {k : Nat} (hi : IncK f d l) (hk : k < l.length) : IncK f d (delAt l k) := by
  intro i j hij hj
  have := delAt_length l k hk
  rw [nth_delAt d l k i hk, nth_delAt d l k j hk]
  split <;> split <;> exact hi _ _ (by omega) (by omega)
theorem setK {α : Type} {f : α → Int} {d : α} {l : List α} {k : Nat} {x : α} (hi : IncK f d l) (hk : k < l.length) (hx : f x = f (nth d l k)) : IncK f d (l.set k x) := by
  intro i j hij hj
  rw [List.length_set] at hj
  have hn : ∀ j, f (nth d (l.set k x) j) = f (nth d l j) := fun j => by
    unfold nth
    simp only [List.getD, List.getElem?_set]
    by_cases h : k = j
    · subst h
      rw [if_pos rfl, if_pos hk]
      simp only [Option.getD_some]
      rw [hx]
      rfl
    · rw [if_neg h]
  rw [hn, hn]
  exact hi i j hij hj
theorem countL_ins (l : List Dev) (k : Nat) (d : Dev) : countL (insAt l k d) = countL l + d.maps.length := by
  unfold insAt
  have ha : ∀ a b : List Dev, countL (a ++ b) = countL a + countL b := by
    intro a b
    induction a with
    | nil => simp [countL]
    | cons x a ih => simp only [List.cons_append, countL, ih]; omega
  have h := ha (l.take k) (l.drop k)
  rw [List.take_append_drop] at h
  rw [ha, h]
  simp only [countL]
  omega
theorem countL_set {l : List Dev} {k : Nat} (d : Dev) (hk : k < l.length) : countL (l.set k d) = countL l - (nth dev0 l k).maps.length + d.maps.length := by
  have h1 := countL_append (l.take k) (l.drop k)
  rw [List.take_append_drop, drop_nth dev0 l k hk] at h1
  rw [List.set_eq_take_append_cons_drop, if_pos hk, countL_append]
  simp only [countL] at h1 ⊢
  omega
theorem countL_del {l : List Dev} {k : Nat} (hk : k < l.length) : countL (delAt l k) = countL l - (nth dev0 l k).maps.length := by
  have h1 := countL_append (l.take k) (l.drop k)
  rw [List.take_append_drop, drop_nth dev0 l k hk] at h1
  unfold delAt
  rw [countL_append]
  simp only [countL] at h1
  omega
/-- A device more. -/
theorem add_fit {p : Pool} {id : Int} {m : List Mp} (h : PoolFit p) (hid : 0 ≤ id ∧ id ≤ 16777215) (hh : dhas p id = false) (hl : p.devs.length < 4096) (hc : p.count + m.length ≤ 16384) (hm : IncK Mp.v mp0 m) (hf : ∀ x ∈ m, MapFit p.data x) : PoolFit (addF p id m) := by
  obtain ⟨⟨h1, h2, h3, h4⟩, h5, h6, h7, h8⟩ := h
  refine ⟨⟨h1, h2, h3, h4⟩, ?_, ?_, ?_, fun d hd => ?_⟩
  · show (insAt p.devs _ _).length ≤ 4096
    rw [insAt_length _ _ _ posK_le]; omega
  · show countL (insAt p.devs _ _) ≤ 16384
    rw [countL_ins]
    exact hc
  · exact insK (x := newDev p id m) h7 hh
  · rcases mem_insAt.1 (show d ∈ insAt p.devs _ _ from hd) with rfl | hd
    · exact ⟨hid, h1, h2, h2, hm, hf⟩
    · exact h8 d hd
theorem stamp_fit {p : Pool} {k : Nat} (h : PoolFit p) (hk : k < p.devs.length) (ht : p.time < 16777215) : PoolFit (stampF p k) := by
  obtain ⟨⟨h1, h2, h3, h4⟩, h5, h6, h7, h8⟩ := h
  refine ⟨⟨h1, by show 0 ≤ p.time + 1 ∧ p.time + 1 ≤ 16777215; omega, h3, h4⟩, ?_, ?_, ?_, fun d hd => ?_⟩
  · show (p.devs.set k _).length ≤ 4096
    rw [List.length_set]; exact h5
  · show countL (p.devs.set k _) ≤ 16384
    rw [countL_set _ hk]
    have e : (snapped (nth dev0 p.devs k) (p.time + 1)).maps = (nth dev0 p.devs k).maps := rfl
    have : countL p.devs ≤ 16384 := h6
    rw [e]; omega
  · exact setK h7 hk rfl
  · rcases List.mem_or_eq_of_mem_set (show d ∈ p.devs.set k _ from hd) with hd | rfl
    · exact h8 d hd
    · obtain ⟨f1, f2, f3, f4, f5, f6⟩ := h8 _ (nth_mem dev0 p.devs k hk)
      exact ⟨f1, f2, f3, by show 0 ≤ p.time + 1 ∧ p.time + 1 ≤ 16777215; omega, f5, f6⟩
end Go.Proofs.YtcdfbpdejbpgjaaGreat
