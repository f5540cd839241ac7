/- The plain law of delta.Maps: the other way round, in order, and what the parts add up to. No condition: no program is in sight here. -/
import Derived.Test.YtecnkeakmedgnaaPart
namespace Go.Proofs.Ytecnkeakmedgnaa

def turnK (k : Int) : Int := if k = 3 then 4 else if k = 4 then 3 else k
theorem turnK_inj {a b : Int} (h : turnK a = turnK b) : a = b := by
  unfold turnK at h
  split at h <;> split at h <;> (try split at h) <;> omega
def turnP (p : Pt) : Pt := ⟨turnK p.k, p.v, p.n⟩
theorem addP_turn (l : List Pt) (k x : Int) : addP (l.map turnP) (turnK k) x = (addP l k x).map turnP := by
  rcases List.eq_nil_or_concat l with rfl | ⟨i, p, rfl⟩
  · rfl
  · rw [List.concat_eq_append, List.map_append]
    have e : ([p].map turnP) = [turnP p] := rfl
    rw [e]
    by_cases hc : p.k = k ∧ p.v + p.n = x
    · rw [addP_hit _ _ _ _ hc.1 hc.2, addP_hit (i.map turnP) (turnP p) (turnK k) x (by simp [turnP, hc.1]) hc.2]
      simp [turnP]
    · rw [addP_miss _ _ _ _ hc, addP_miss (i.map turnP) (turnP p) (turnK k) x (fun h => hc ⟨turnK_inj h.1, h.2⟩)]
      simp [turnP]
theorem glue_turn (ks : List (Int × Int)) : ∀ out : List Pt, glue (out.map turnP) (ks.map fun q => (turnK q.1, q.2)) = (glue out ks).map turnP := by
  induction ks with
  | nil => intro out; rfl
  | cons q ks ih =>
    intro out
    obtain ⟨k, x⟩ := q
    rw [List.map_cons, glue_cons, glue_cons, addP_turn]
    exact ih _
theorem keys_turn : ∀ n (a b : List Mp), a.length + b.length ≤ n → keys b a = (keys a b).map fun q => (turnK q.1, q.2) := by
  intro n
  induction n with
  | zero =>
    intro a b h
    obtain rfl : a = [] := List.eq_nil_of_length_eq_zero (by omega)
    obtain rfl : b = [] := List.eq_nil_of_length_eq_zero (by omega)
    rw [keys_nil_left]; rfl
  | succ n ih =>
    intro a b h
    cases a with
    | nil => rw [keys_nil_right, keys_nil_left, List.map_map]; rfl
    | cons x a =>
      cases b with
      | nil => rw [keys_nil_left, keys_nil_right, List.map_map]; rfl
      | cons y b =>
        simp only [List.length_cons] at h
        rcases Int.lt_trichotomy x.v y.v with hxy | hxy | hxy
        · rw [keys_lt x y a b hxy, keys_gt y x b a hxy, List.map_cons, ih a (y :: b) (by simp; omega)]; rfl
        · rw [keys_eq x y a b hxy, keys_eq y x b a hxy.symm, List.map_cons, ih a b (by omega), hxy]
          by_cases hb : x.b = y.b
          · rw [if_pos hb, if_pos hb.symm]; rfl
          · rw [if_neg hb, if_neg (fun h => hb h.symm)]; rfl
        · rw [keys_gt x y a b hxy, keys_lt y x b a hxy, List.map_cons, ih (x :: a) b (by simp; omega)]; rfl
theorem parts_turn (a b : List Mp) : partsOf b a = (partsOf a b).map turnP := by
  unfold partsOf
  rw [keys_turn _ a b (Nat.le_refl _)]
  exact glue_turn _ []

/-! ### The order -/
/-- Mappings whose blocks rise, all above a number. -/
def Rise : Int → List Mp → Prop
  | _, [] => True
  | lo, m :: l => lo < m.v ∧ Rise m.v l
theorem chkFrom_rise (last : Int) (l : List Mp) (h : chkFrom last l = 0) : Rise last l := by
  induction l generalizing last with
  | nil => trivial
  | cons x l ih =>
    simp only [chkFrom] at h
    by_cases h1 : x.v < 0 ∨ 281474976710655 < x.v
    · rw [if_pos h1] at h; cases h
    · rw [if_neg h1] at h
      by_cases h2 : x.v ≤ last
      · rw [if_pos h2] at h; cases h
      · rw [if_neg h2] at h
        exact ⟨by omega, ih _ h⟩
theorem Rise.low {lo lo' : Int} {l : List Mp} (h : Rise lo l) (hl : lo' ≤ lo) : Rise lo' l := by
  cases l with
  | nil => trivial
  | cons m l => exact ⟨Int.lt_of_le_of_lt hl h.1, h.2⟩
/-- Keys that rise, all above a number, of kinds 1 to 4. -/
def RiseK : Int → List (Int × Int) → Prop
  | _, [] => True
  | lo, q :: l => lo < q.2 ∧ 1 ≤ q.1 ∧ q.1 ≤ 4 ∧ RiseK q.2 l
theorem riseK_map (k : Int) (h1 : 1 ≤ k) (h4 : k ≤ 4) : ∀ (l : List Mp) (lo : Int), Rise lo l → RiseK lo (l.map fun m => (k, m.v)) := by
  intro l
  induction l with
  | nil => intro lo _; trivial
  | cons m l ih => intro lo h; exact ⟨h.1, h1, h4, ih _ h.2⟩
theorem keys_rise : ∀ n (a b : List Mp) (lo : Int), a.length + b.length ≤ n → Rise lo a → Rise lo b → RiseK lo (keys a b) := by
  intro n
  induction n with
  | zero =>
    intro a b lo h _ _
    obtain rfl : a = [] := List.eq_nil_of_length_eq_zero (by omega)
    obtain rfl : b = [] := List.eq_nil_of_length_eq_zero (by omega)
    rw [keys_nil_left]; trivial
  | succ n ih =>
    intro a b lo h ha hb
    cases a with
    | nil => rw [keys_nil_left]; exact riseK_map 4 (by omega) (by omega) b lo hb
    | cons x a =>
      cases b with
      | nil => rw [keys_nil_right]; exact riseK_map 3 (by omega) (by omega) (x :: a) lo ha
      | cons y b =>
        simp only [List.length_cons] at h
        rcases Int.lt_trichotomy x.v y.v with hxy | hxy | hxy
        · rw [keys_lt x y a b hxy]
          exact ⟨ha.1, by simp, by simp, ih a (y :: b) x.v (by simp; omega) ha.2 ⟨hxy, hb.2⟩⟩
        · rw [keys_eq x y a b hxy]
          refine ⟨ha.1, ?_, ?_, ih a b x.v (by omega) ha.2 (by rw [hxy]; exact hb.2)⟩
          · by_cases hb : x.b = y.b
            · rw [if_pos hb]; simp
            · rw [if_neg hb]; simp
          · by_cases hb : x.b = y.b
            · rw [if_pos hb]; simp
            · rw [if_neg hb]; simp
        · rw [keys_gt x y a b hxy]
          exact ⟨hb.1, by simp, by simp, ih (x :: a) b y.v (by simp; omega) ⟨hxy, ha.2⟩ hb.2⟩
/-- Parts one behind the other, of kinds 1 to 4, none of them empty; all end at or below e. -/
def Chain (l : List Pt) : Prop := (∀ p ∈ l, 1 ≤ p.k ∧ p.k ≤ 4 ∧ 1 ≤ p.n) ∧ ∀ i, i + 1 < l.length → (nth pt0 l i).v + (nth pt0 l i).n ≤ (nth pt0 l (i + 1)).v
def Ends (l : List Pt) (e : Int) : Prop := ∀ p, l.getLast? = some p → p.v + p.n ≤ e
theorem nth_last (i : List Pt) (p : Pt) : nth pt0 (i ++ [p]) i.length = p := nth_append_len pt0 i [] p
theorem Chain.addP_ {l : List Pt} {k x : Int} (h : Chain l) (he : Ends l x) (h1 : 1 ≤ k) (h4 : k ≤ 4) : Chain (addP l k x) ∧ Ends (addP l k x) (x + 1) := by
  rcases List.eq_nil_or_concat l with rfl | ⟨i, p, rfl⟩
  · rw [addP_nil]
    refine ⟨⟨?_, ?_⟩, ?_⟩
    · intro q hq; simp at hq; subst hq; exact ⟨h1, h4, by simp⟩
    · intro j hj; simp at hj
    · intro q hq; simp at hq; subst hq; simp
  · rw [List.concat_eq_append] at *
    have hp := h.1 p (by simp)
    have hpe : p.v + p.n ≤ x := he p (by simp)
    by_cases hc : p.k = k ∧ p.v + p.n = x
    · rw [addP_hit _ _ _ _ hc.1 hc.2]
      refine ⟨⟨?_, ?_⟩, ?_⟩
      · intro q hq
        rcases List.mem_append.1 hq with hq | hq
        · exact h.1 q (by simp [hq])
        · simp at hq; subst hq; exact ⟨hp.1, hp.2.1, by simp; omega⟩
      · intro j hj
        simp only [List.length_append, List.length_cons, List.length_nil] at hj
        have := h.2 j (by simp; omega)
        by_cases hlast : j + 1 = i.length
        · rw [nth_append_left _ _ _ _ (by omega), hlast, nth_last] at this
          rw [nth_append_left _ _ _ _ (by omega), hlast, nth_last]
          exact this
        · rw [nth_append_left _ _ _ _ (by omega), nth_append_left _ _ _ _ (by omega)] at this
          rw [nth_append_left _ _ _ _ (by omega), nth_append_left _ _ _ _ (by omega)]
          exact this
      · intro q hq; simp at hq; subst hq; simp; omega
    · rw [addP_miss _ _ _ _ hc]
      refine ⟨⟨?_, ?_⟩, ?_⟩
      · intro q hq
        rcases List.mem_append.1 hq with hq | hq
        · exact h.1 q hq
        · simp at hq; subst hq; exact ⟨h1, h4, by simp⟩
      · intro j hj
        by_cases hlast : j + 1 = (i ++ [p]).length
        · rw [hlast, nth_last]
          simp only [List.length_append, List.length_cons, List.length_nil] at hlast
          have hj' : j = i.length := by omega
          rw [nth_append_left _ _ _ _ (by simp; omega), hj', nth_last]
          exact hpe
        · simp only [List.length_append, List.length_cons, List.length_nil] at hj hlast
          rw [nth_append_left pt0 (i ++ [p]) _ j (by simp; omega), nth_append_left pt0 (i ++ [p]) _ (j + 1) (by simp; omega)]
          exact h.2 j (by simp; omega)
      · intro q hq; simp at hq; subst hq; simp
theorem glue_chain : ∀ (ks : List (Int × Int)) (out : List Pt) (lo : Int), Chain out → Ends out (lo + 1) → RiseK lo ks → Chain (glue out ks) := by
  intro ks
  induction ks with
  | nil => intro out lo h _ _; exact h
  | cons q ks ih =>
    intro out lo h he hr
    obtain ⟨k, x⟩ := q
    have hr1 : lo < x := hr.1
    obtain ⟨c1, c2⟩ := h.addP_ (k := k) (x := x) (fun p hp => by have := he p hp; omega) hr.2.1 hr.2.2.1
    rw [glue_cons]
    exact ih _ x c1 c2 hr.2.2.2
theorem parts_chain {a b : List Mp} (ha : chk a = 0) (hb : chk b = 0) : Chain (partsOf a b) :=
  glue_chain _ [] (-1) ⟨by simp, by simp⟩ (fun p hp => by simp at hp) (keys_rise _ a b _ (Nat.le_refl _) (chkFrom_rise _ _ ha) (chkFrom_rise _ _ hb))

/-! ### The sums -/
def sumK (k : Int) : List Pt → Int
  | [] => 0
  | p :: l => (if p.k = k then p.n else 0) + sumK k l
def cntK (k : Int) : List (Int × Int) → Int
  | [] => 0
  | q :: l => (if q.1 = k then 1 else 0) + cntK k l
theorem sumK_append (k : Int) (l r : List Pt) : sumK k (l ++ r) = sumK k l + sumK k r := by
  induction l with
  | nil => simp [sumK]
  | cons p l ih => simp only [List.cons_append, sumK, ih]; omega
theorem sumK_addP (k : Int) (l : List Pt) (kd x : Int) : sumK k (addP l kd x) = sumK k l + if kd = k then 1 else 0 := by
  rcases List.eq_nil_or_concat l with rfl | ⟨i, p, rfl⟩
  · rw [addP_nil]; simp [sumK]
  · rw [List.concat_eq_append]
    by_cases hc : p.k = kd ∧ p.v + p.n = x
    · rw [addP_hit _ _ _ _ hc.1 hc.2, sumK_append, sumK_append]
      simp only [sumK, hc.1]
      split <;> omega
    · rw [addP_miss _ _ _ _ hc, sumK_append]; simp [sumK]
theorem sumK_glue (k : Int) (ks : List (Int × Int)) : ∀ out : List Pt, sumK k (glue out ks) = sumK k out + cntK k ks := by
  induction ks with
  | nil => intro out; simp [cntK, glue]
  | cons q ks ih =>
    intro out
    obtain ⟨kd, x⟩ := q
    rw [glue_cons, ih, sumK_addP]
    simp only [cntK]
    omega
theorem sumK_parts (k : Int) (a b : List Mp) : sumK k (partsOf a b) = cntK k (keys a b) := by
  unfold partsOf
  rw [sumK_glue]; simp [sumK]
theorem cntK_map (k kd : Int) (l : List Mp) : cntK k (l.map fun m => (kd, m.v)) = if kd = k then l.length else 0 := by
  induction l with
  | nil => simp [cntK]
  | cons m l ih => simp only [List.map_cons, cntK, ih, List.length_cons]; split <;> simp <;> omega
theorem cnt_all : ∀ n (a b : List Mp), a.length + b.length ≤ n → cntK 1 (keys a b) + cntK 2 (keys a b) + cntK 3 (keys a b) = a.length ∧ cntK 1 (keys a b) + cntK 2 (keys a b) + cntK 4 (keys a b) = b.length := by
  intro n
  induction n with
  | zero =>
    intro a b h
    obtain rfl : a = [] := List.eq_nil_of_length_eq_zero (by omega)
    obtain rfl : b = [] := List.eq_nil_of_length_eq_zero (by omega)
    rw [keys_nil_left]; simp [cntK]
  | succ n ih =>
    intro a b h
    cases a with
    | nil => rw [keys_nil_left]; simp [cntK_map]
    | cons x a =>
      cases b with
      | nil => rw [keys_nil_right, cntK_map, cntK_map, cntK_map, cntK_map]; simp
      | cons y b =>
        simp only [List.length_cons] at h
        rcases Int.lt_trichotomy x.v y.v with hxy | hxy | hxy
        · rw [keys_lt x y a b hxy]
          have := ih a (y :: b) (by simp; omega)
          simp [cntK] at this ⊢; omega
        · rw [keys_eq x y a b hxy]
          have := ih a b (by omega)
          by_cases hb : x.b = y.b
          · rw [if_pos hb]; simp [cntK]; omega
          · rw [if_neg hb]; simp [cntK]; omega
        · rw [keys_gt x y a b hxy]
          have := ih (x :: a) b (by simp; omega)
          simp [cntK] at this ⊢; omega
theorem keys_self (a : List Mp) : keys a a = a.map fun m => (1, m.v) := by
  induction a with
  | nil => rw [keys_nil_left]; rfl
  | cons x a ih => rw [keys_eq x x a a rfl, if_pos rfl, ih]; rfl
theorem sum_self (a : List Mp) : sumK 1 (partsOf a a) = a.length := by
  rw [sumK_parts, keys_self, cntK_map]; simp
end Go.Proofs.Ytecnkeakmedgnaa
