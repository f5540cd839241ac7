/- What view's numbers add up to, as plain Lean: mappings of devices, parts of data blocks, spans that nothing maps. No condition: no program is in sight here. -/
import Derived.Test.YtnemfponbadcjaaRevP
import Derived.Test.YtnemfponbadcjaaWListP
namespace Go.Proofs.Ytnemfponbadcjaa
open Go.RowKit

def sumM : List Ls → Int
  | [] => 0
  | x :: l => x.mapped + sumM l
theorem sumM_append (l r : List Ls) : sumM (l ++ r) = sumM l + sumM r := by
  induction l with
  | nil => simp [sumM]
  | cons x l ih => simp only [List.cons_append, sumM, ih]; omega
theorem sumM_take (l : List Ls) (k : Nat) (h : k < l.length) : sumM (l.take (k + 1)) = sumM (l.take k) + (nth ls0 l k).mapped := by
  rw [take_nth ls0 l k h, sumM_append]; simp [sumM]
theorem sumM_devs (L : List Int) : ∀ l : List Dev, sumM (l.map (lsOf L)) = countL l := by
  intro l
  induction l with
  | nil => rfl
  | cons d l ih => simp only [List.map_cons, sumM, countL, ih]; rfl
/-- What ViewAdds asks of each device's row. -/
def LsGood (x : Ls) : Prop := x.own + x.shared = x.mapped ∧ 0 ≤ x.own ∧ 0 ≤ x.shared ∧ x.own ≤ x.mapped ∧ x.shared ≤ x.mapped
theorem lsOf_good (L : List Int) (d : Dev) : LsGood (lsOf L d) := by
  have := ownN_bound L d.maps
  unfold LsGood lsOf
  exact ⟨by simp only; omega, by simp only; omega, by simp only; omega, by simp only; omega, by simp only; omega⟩
theorem sumM_bd (l : List Ls) (h : ∀ x ∈ l, 0 ≤ x.mapped) : ∀ k, 0 ≤ sumM (l.take k) ∧ sumM (l.take k) ≤ sumM l := by
  induction l with
  | nil => intro k; simp [sumM]
  | cons x l ih =>
    intro k
    have h0 := h x (by simp)
    have hl := ih (fun y hy => h y (by simp [hy]))
    have h1 := hl l.length
    rw [List.take_length] at h1
    cases k with
    | zero => simp only [List.take_zero, sumM]; omega
    | succ k => have h2 := hl k; simp only [List.take_succ_cons, sumM]; omega

def sumN : List Bk → Int
  | [] => 0
  | x :: l => x.n + sumN l
theorem sumN_append (l r : List Bk) : sumN (l ++ r) = sumN l + sumN r := by
  induction l with
  | nil => simp [sumN]
  | cons x l ih => simp only [List.cons_append, sumN, ih]; omega
theorem sumN_take (l : List Bk) (k : Nat) (h : k < l.length) : sumN (l.take (k + 1)) = sumN (l.take k) + (nth bk0 l k).n := by
  rw [take_nth bk0 l k h, sumN_append]; simp [sumN]
theorem sumN_perm {l r : List Bk} (h : l.Perm r) : sumN l = sumN r := by
  induction h with
  | nil => rfl
  | cons x _ ih => simp only [sumN, ih]
  | swap x y l => simp only [sumN]; omega
  | trans _ _ ih1 ih2 => exact ih1.trans ih2
theorem sumN_bd (l : List Bk) (h : ∀ x ∈ l, 0 ≤ x.n) : ∀ k, 0 ≤ sumN (l.take k) ∧ sumN (l.take k) ≤ sumN l := by
  induction l with
  | nil => intro k; simp [sumN]
  | cons x l ih =>
    intro k
    have h0 := h x (by simp)
    have hl := ih (fun y hy => h y (by simp [hy]))
    have h1 := hl l.length
    rw [List.take_length] at h1
    cases k with
    | zero => simp only [List.take_zero, sumN]; omega
    | succ k => have h2 := hl k; simp only [List.take_succ_cons, sumN]; omega
/-- Runs within the data blocks, and how many blocks they have. -/
def sumR : List Rn → Int
  | [] => 0
  | x :: l => x.n + sumR l
theorem sumR_append (l r : List Rn) : sumR (l ++ r) = sumR l + sumR r := by
  induction l with
  | nil => simp [sumR]
  | cons x l ih => simp only [List.cons_append, sumR, ih]; omega
def RnIn (data : Int) (r : Rn) : Prop := 0 ≤ r.b ∧ r.b + r.n ≤ data ∧ 0 ≤ r.n
theorem runs_in {data : Int} {l : List Mp} (h : ∀ m ∈ l, 0 ≤ m.b ∧ m.b < data) : ∀ k, k ≤ l.length → (∀ r ∈ runsOf (l.take k), RnIn data r) ∧ sumR (runsOf (l.take k)) = k := by
  intro k
  induction k with
  | zero => intro _; exact ⟨fun r hr => (by simp [runsOf] at hr), by simp [runsOf, sumR]⟩
  | succ k ih =>
    intro hk
    obtain ⟨i1, i2⟩ := ih (by omega)
    have hm := h _ (nth_mem mp0 l k (by omega))
    rw [runsOf_take l k (by omega)]
    have h1 : RnIn data (oneR (nth mp0 l k)) := ⟨by show 0 ≤ (nth mp0 l k).b; exact hm.1, by show (nth mp0 l k).b + 1 ≤ data; omega, by show (0 : Int) ≤ 1; omega⟩
    rcases Nat.eq_zero_or_pos k with h0 | h0
    · subst h0
      have e : runsOf (l.take 0) = [] := rfl
      rw [e, addR_nil]
      exact ⟨fun r hr => (by simp at hr; subst hr; exact h1), by simp [sumR, oneR]⟩
    · obtain ⟨i, p, e, _, hpb, _, hpn⟩ := runs_last l k h0 (by omega)
      rw [e] at i1 i2 ⊢
      have hp := i1 p (by simp)
      rw [sumR_append] at i2
      simp only [sumR] at i2
      cases hf : folB p (oneR (nth mp0 l k)) with
      | true =>
        rw [addR_hit i p _ hf]
        unfold folB at hf
        simp only [Bool.and_eq_true, decide_eq_true_eq] at hf
        obtain ⟨_, f2, _⟩ := hf
        have e1 : (oneR (nth mp0 l k)).n = 1 := rfl
        obtain ⟨b1, b2, b3⟩ := h1
        obtain ⟨p1, p2, p3⟩ := hp
        refine ⟨fun r hr => ?_, ?_⟩
        · rcases List.mem_append.1 hr with hr | hr
          · exact i1 r (List.mem_append.2 (.inl hr))
          · simp only [List.mem_singleton] at hr
            subst hr
            refine ⟨p1, ?_, ?_⟩
            · show p.b + (p.n + (oneR (nth mp0 l k)).n) ≤ data
              omega
            · show 0 ≤ p.n + (oneR (nth mp0 l k)).n
              omega
        · rw [sumR_append]
          simp only [sumR, e1]
          omega
      | false =>
        rw [addR_miss i p _ hf]
        refine ⟨fun r hr => ?_, ?_⟩
        · rcases List.mem_append.1 hr with hr | hr
          · exact i1 r hr
          · simp only [List.mem_singleton] at hr
            subst hr
            exact h1
        · rw [sumR_append, sumR_append]
          simp only [sumR]
          have e1 : (oneR (nth mp0 l k)).n = 1 := rfl
          omega
theorem bk_split (id : Int) {data a : Int} {r : Rn} (h : RnIn data r) (h0 : 0 ≤ a) (_h1 : a ≤ data) : sumN (bkOf id 0 a r) + sumN (bkOf id a data r) = r.n := by
  obtain ⟨b1, b2, b3⟩ := h
  unfold bkOf cutB cutN
  simp only [decide_eq_true_eq]
  split <;> split <;> simp only [sumN] <;> omega
theorem bk_pos (id f t : Int) (r : Rn) : ∀ x ∈ bkOf id f t r, 0 ≤ x.n := by
  intro x hx
  unfold bkOf cutB cutN at hx
  simp only [decide_eq_true_eq] at hx
  split at hx
  · simp only [List.mem_singleton] at hx
    subst hx
    simp only
    omega
  · cases hx
theorem rawP_pos (f t : Int) (p : Pool) : ∀ x ∈ rawP f t p, 0 ≤ x.n := by
  intro x hx
  unfold rawP rawDev at hx
  simp only [List.mem_flatMap] at hx
  obtain ⟨d, _, r, _, h⟩ := hx
  exact bk_pos _ _ _ r x h
theorem runs_split (id : Int) {data a : Int} (h0 : 0 ≤ a) (h1 : a ≤ data) : ∀ l : List Rn, (∀ r ∈ l, RnIn data r) → sumN (l.flatMap (bkOf id 0 a)) + sumN (l.flatMap (bkOf id a data)) = sumR l := by
  intro l
  induction l with
  | nil => intro _; rfl
  | cons r l ih =>
    intro h
    have i1 := ih fun x hx => h x (by simp [hx])
    have i2 := bk_split id (h r (by simp)) h0 h1
    simp only [List.flatMap_cons, sumN_append, sumR]
    omega
theorem raw_split {p : Pool} (h : poolChk p = 0) {a : Int} (h0 : 0 ≤ a) (h1 : a ≤ p.data) : sumN (rawP 0 a p) + sumN (rawP a p.data p) = p.count := by
  have key : ∀ l : List Dev, (∀ d ∈ l, d ∈ p.devs) → sumN (l.flatMap (rawDev 0 a)) + sumN (l.flatMap (rawDev a p.data)) = countL l := by
    intro l
    induction l with
    | nil => intro _; rfl
    | cons d l ih =>
      intro hm
      have i1 := ih fun x hx => hm x (by simp [hx])
      have hb : ∀ m ∈ d.maps, 0 ≤ m.b ∧ m.b < p.data := fun m hmm => ((pool_dev h (hm d (by simp))).2.2 m hmm).2.1
      have hr := runs_in hb d.maps.length (Nat.le_refl _)
      rw [List.take_length] at hr
      have i2 := runs_split d.id h0 h1 _ hr.1
      simp only [List.flatMap_cons, sumN_append, countL]
      have e1 : rawDev 0 a d = (runsOf d.maps).flatMap (bkOf d.id 0 a) := rfl
      have e2 : rawDev a p.data d = (runsOf d.maps).flatMap (bkOf d.id a p.data) := rfl
      rw [e1, e2]
      have := hr.2
      omega
  exact key p.devs fun _ hd => hd

/-- Spans. -/
def sumS : List Sp → Int
  | [] => 0
  | x :: l => (x.hi - x.lo) + sumS l
theorem sumS_append (l r : List Sp) : sumS (l ++ r) = sumS l + sumS r := by
  induction l with
  | nil => simp [sumS]
  | cons x l ih => simp only [List.cons_append, sumS, ih]; omega
theorem sumS_take (l : List Sp) (k : Nat) (h : k < l.length) : sumS (l.take (k + 1)) = sumS (l.take k) + ((nth sp0 l k).hi - (nth sp0 l k).lo) := by
  rw [take_nth sp0 l k h, sumS_append]; simp [sumS]
/-- Spans that rise, with something between them, below an end. -/
def SpsGood (b : Int) (l : List Sp) : Prop := (∀ j, j < l.length → 0 ≤ (nth sp0 l j).lo ∧ (nth sp0 l j).lo < (nth sp0 l j).hi ∧ (nth sp0 l j).hi ≤ b) ∧ (∀ j, j + 1 < l.length → (nth sp0 l j).hi < (nth sp0 l (j + 1)).lo)
theorem snoc_case {α : Type} (l : List α) : l = [] ∨ ∃ i x, l = i ++ [x] := by
  rcases List.eq_nil_or_concat l with h | ⟨i, x, h⟩
  · exact .inl h
  · exact .inr ⟨i, x, by rw [h, List.concat_eq_append]⟩
theorem nth_snoc_lt {α : Type} (d : α) (i : List α) (x : α) (j : Nat) (h : j < i.length) : nth d (i ++ [x]) j = nth d i j := nth_append_left d i [x] j h
theorem nth_snoc_eq {α : Type} (d : α) (i : List α) (x : α) (j : Nat) (h : j = i.length) : nth d (i ++ [x]) j = x := by rw [h]; exact nth_append_len d i [] x
theorem frAdd_good {b : Int} {l : List Sp} (h0 : 0 ≤ b) (h : SpsGood b l) : SpsGood (b + 1) (frAdd l b) ∧ sumS (frAdd l b) = sumS l + 1 := by
  rcases snoc_case l with rfl | ⟨i, x, rfl⟩
  · rw [frAdd_new (.inl rfl)]
    exact ⟨⟨fun j hj => by
      have e : nth sp0 ([] ++ [⟨b, b + 1⟩]) j = ⟨b, b + 1⟩ := nth_snoc_eq _ _ _ _ (by simp at hj ⊢; omega)
      rw [e]; exact ⟨h0, by simp only; omega, by simp only; omega⟩, fun j hj => by simp at hj⟩, by simp [sumS]; omega⟩
  · obtain ⟨g1, g2⟩ := h
    have gl := g1 i.length (by simp)
    rw [nth_snoc_eq sp0 i x _ rfl] at gl
    by_cases hx : x.hi = b
    · have e : frAdd (i ++ [x]) b = i ++ [⟨x.lo, b + 1⟩] := by
        have := frAdd_more i x.lo b
        rw [← hx] at this ⊢
        exact this
      rw [e]
      refine ⟨⟨fun j hj => ?_, fun j hj => ?_⟩, by rw [sumS_append, sumS_append]; simp only [sumS]; omega⟩
      · simp only [List.length_append, List.length_singleton] at hj
        by_cases hl : j < i.length
        · have := g1 j (by simp; omega)
          rw [nth_snoc_lt sp0 _ _ _ hl] at this ⊢
          exact ⟨this.1, this.2.1, by omega⟩
        · rw [nth_snoc_eq sp0 _ _ _ (by omega)]
          exact ⟨gl.1, by simp only; omega, by simp only; omega⟩
      · simp only [List.length_append, List.length_singleton] at hj
        have := g2 j (by simp; omega)
        rw [nth_snoc_lt sp0 _ _ _ (by omega)] at this ⊢
        by_cases hl : j + 1 < i.length
        · rw [nth_snoc_lt sp0 _ _ _ hl] at this ⊢; exact this
        · rw [nth_snoc_eq sp0 _ _ _ (by omega)] at this ⊢; exact this
    · rw [frAdd_new (.inr (by rw [lastHi_append]; exact hx))]
      refine ⟨⟨fun j hj => ?_, fun j hj => ?_⟩, by rw [sumS_append]; simp only [sumS]; omega⟩
      · simp only [List.length_append, List.length_singleton] at hj
        by_cases hl : j < (i ++ [x]).length
        · have := g1 j hl
          rw [nth_snoc_lt sp0 _ _ _ hl]
          exact ⟨this.1, this.2.1, by omega⟩
        · rw [nth_snoc_eq sp0 _ _ _ (by simp at hl ⊢; omega)]
          exact ⟨h0, by simp only; omega, by simp only; omega⟩
      · simp only [List.length_append, List.length_singleton] at hj
        rw [nth_snoc_lt sp0 (i ++ [x]) _ _ (by simp; omega)]
        by_cases hl : j + 1 < (i ++ [x]).length
        · rw [nth_snoc_lt sp0 (i ++ [x]) _ _ hl]; exact g2 j hl
        · have hj2 : j = i.length := by simp at hl; omega
          rw [nth_snoc_eq sp0 (i ++ [x]) _ _ (by simp at hl ⊢; omega), nth_snoc_eq sp0 i x _ hj2]
          simp only
          omega
theorem frOf_good (l : List Int) : ∀ k, k ≤ l.length → SpsGood k (frOf (l.take k)) ∧ sumS (frOf (l.take k)) = k - cntG 0 (l.take k) := by
  intro k
  induction k with
  | zero => intro _; exact ⟨⟨fun j hj => by simp [frOf, frFrom] at hj, fun j hj => by simp [frOf, frFrom] at hj⟩, by simp [frOf, frFrom, sumS, cntG]⟩
  | succ k ih =>
    intro hk
    obtain ⟨i1, i2⟩ := ih (by omega)
    rw [frOf_take l k (by omega), cntG_take 0 l k (by omega)]
    split
    · refine ⟨⟨fun j hj => ?_, i1.2⟩, by omega⟩
      have := i1.1 j hj
      exact ⟨this.1, this.2.1, by omega⟩
    · obtain ⟨a1, a2⟩ := frAdd_good (b := k) (by omega) i1
      exact ⟨by simpa using a1, by rw [a2]; omega⟩
theorem fr_all (l : List Int) : SpsGood l.length (frOf l) ∧ sumS (frOf l) = l.length - cntG 0 l := by
  have := frOf_good l l.length (Nat.le_refl _)
  rwa [List.take_length] at this
theorem sumS_bd {b : Int} : ∀ l : List Sp, SpsGood b l → ∀ k, 0 ≤ sumS (l.take k) ∧ sumS (l.take k) ≤ sumS l := by
  intro l h
  have pos : ∀ l : List Sp, (∀ x ∈ l, x.lo < x.hi) → ∀ k, 0 ≤ sumS (l.take k) ∧ sumS (l.take k) ≤ sumS l := by
    intro l
    induction l with
    | nil => intro _ k; simp [sumS]
    | cons x l ih =>
      intro hx k
      have h0 := hx x (by simp)
      have hl := ih (fun y hy => hx y (by simp [hy]))
      have h1 := hl l.length
      rw [List.take_length] at h1
      cases k with
      | zero => simp only [List.take_zero, sumS]; omega
      | succ k => have h2 := hl k; simp only [List.take_succ_cons, sumS]; omega
  refine pos l fun x hx => ?_
  obtain ⟨j, hj, rfl⟩ := List.getElem_of_mem hx
  have := h.1 j hj
  rw [nth_get sp0 l j hj] at this
  exact this.2.1
theorem cntG_mono (l : List Int) : cntG 1 l ≤ cntG 0 l := by
  induction l with
  | nil => simp [cntG]
  | cons x l ih => simp only [cntG]; split <;> split <;> omega
end Go.Proofs.Ytnemfponbadcjaa
