/- Go's stable sort (insertion sort, symMerge, rotate) as plain Lean, and the reference's; they are the same (stab_eq). No condition. -/
import Derived.Test.YtolpgblegbahgaaBase
namespace Go.Proofs.Ytolpgblegbahgaa
open Go.RowKit
set_option linter.unusedVariables false
set_option linter.unusedSimpArgs false

section
variable {α : Type} (d : α) (lt : α → α → Bool)

/-- two exchange their places -/
def swp (l : List α) (i j : Nat) : List α := (l.set i (nth d l j)).set j (nth d l i)
/-- insertionSort's inner loop -/
def insDown (a : Nat) : Nat → List α → List α
  | 0, l => l
  | j + 1, l => if a < j + 1 ∧ lt (nth d l (j + 1)) (nth d l j) = true then insDown a j (swp d l (j + 1) j) else l
/-- insertionSort's outer loop, n more to come -/
def insAll (a b : Nat) : Nat → List α → List α
  | 0, l => l
  | n + 1, l => insAll a b n (insDown d lt a (b - (n + 1)) l)
def insSort (a b : Nat) (l : List α) : List α := insAll d lt a b (b - (a + 1)) l
/-- swapRange from i on, n more to come -/
def swpR (a b : Nat) (i : Nat) : Nat → List α → List α
  | 0, l => l
  | n + 1, l => swpR a b (i + 1) n (swp d l (a + i) (b + i))
/-- rotate's loop; f bounds the turns -/
def rotL (m : Nat) : Nat → Nat → Nat → List α → List α
  | 0, _, _, l => l
  | f + 1, i, j, l =>
    if i = j then swpR d (m - i) m 0 i l
    else if j < i then rotL m f (i - j) j (swpR d (m - i) m 0 j l)
    else rotL m f i (j - i) (swpR d (m - i) (m + j - i) 0 i l)
def rot (a m b : Nat) (l : List α) : List α := rotL d m (b - a) (m - a) (b - m) l
/-- the search of a place: f bounds the turns -/
def bsF (p : Nat → Bool) : Nat → Nat → Nat → Nat
  | 0, i, _ => i
  | f + 1, i, j => if i < j then (if p ((i + j) / 2) = true then bsF p f ((i + j) / 2 + 1) j else bsF p f i ((i + j) / 2)) else i
/-- n exchanges upward from k on -/
def shUp (k : Nat) : Nat → List α → List α
  | 0, l => l
  | n + 1, l => shUp (k + 1) n (swp d l k (k + 1))
/-- exchanges downward from k to i -/
def shDn (i : Nat) : Nat → List α → List α
  | 0, l => l
  | k + 1, l => if i < k + 1 then shDn i k (swp d l (k + 1) k) else l
/-- symMerge's search: where the left part's first half ends -/
def symLo (a m b : Nat) : Nat := if (a + b) / 2 < m then (a + b) / 2 + m - b else a
def symHi (a m b : Nat) : Nat := if (a + b) / 2 < m then (a + b) / 2 else m
def symAt (a m b : Nat) (l : List α) : Nat :=
  bsF (fun c => !lt (nth d l ((a + b) / 2 + m - 1 - c)) (nth d l c)) (symHi a m b - symLo a m b + 1) (symLo a m b) (symHi a m b)
def symRot (m s e : Nat) (l : List α) : List α := if s < m ∧ m < e then rot d s m e l else l
/-- symMerge; f bounds the depth -/
def symM : Nat → Nat → Nat → Nat → List α → List α
  | 0, _, _, _, l => l
  | f + 1, a, m, b, l =>
    if m - a = 1 then shUp d a (bsF (fun h => lt (nth d l h) (nth d l a)) (b - m + 1) m b - 1 - a) l
    else if b - m = 1 then shDn d (bsF (fun h => !lt (nth d l m) (nth d l h)) (m - a + 1) a m) m l
    else
      let mid := (a + b) / 2
      let s := symAt d lt a m b l
      let e := mid + m - s
      let l1 := symRot d m s e l
      let l2 := if a < s ∧ s < mid then symM f a s mid l1 else l1
      if mid < e ∧ e < b then symM f mid e b l2 else l2
/-- the whole, of at most 39 -/
def stab (l : List α) : List α :=
  if l.length < 20 then insSort d lt 0 l.length l
  else
    let l1 := insSort d lt 20 l.length (insSort d lt 0 20 l)
    if 20 < l.length then symM d lt l.length 0 20 l.length l1 else l1

/-- the reference's: one by one, behind all that it is not ahead of -/
def refDn : Nat → List α → List α := insDown d lt 0
def refS : List α → List α → List α
  | out, [] => out
  | out, x :: r => refS (insDown d lt 0 out.length (out ++ [x])) r

theorem swp_length (l : List α) (i j : Nat) : (swp d l i j).length = l.length := by simp [swp]
theorem insDown_length (a : Nat) : ∀ (j : Nat) (l : List α), (insDown d lt a j l).length = l.length
  | 0, l => rfl
  | j + 1, l => by
    unfold insDown
    split
    · rw [insDown_length a j, swp_length]
    · rfl
theorem insAll_length (a b : Nat) : ∀ (n : Nat) (l : List α), (insAll d lt a b n l).length = l.length
  | 0, l => rfl
  | n + 1, l => by rw [insAll, insAll_length a b n, insDown_length]
theorem swpR_length (a b : Nat) : ∀ (n i : Nat) (l : List α), (swpR d a b i n l).length = l.length
  | 0, i, l => rfl
  | n + 1, i, l => by rw [swpR, swpR_length a b n, swp_length]
theorem rotL_length (m : Nat) : ∀ (f i j : Nat) (l : List α), (rotL d m f i j l).length = l.length
  | 0, i, j, l => rfl
  | f + 1, i, j, l => by
    unfold rotL
    split
    · rw [swpR_length]
    · split
      · rw [rotL_length m f, swpR_length]
      · rw [rotL_length m f, swpR_length]
theorem shUp_length : ∀ (n k : Nat) (l : List α), (shUp d k n l).length = l.length
  | 0, k, l => rfl
  | n + 1, k, l => by rw [shUp, shUp_length n, swp_length]
theorem shDn_length (i : Nat) : ∀ (k : Nat) (l : List α), (shDn d i k l).length = l.length
  | 0, l => rfl
  | k + 1, l => by
    unfold shDn
    split
    · rw [shDn_length i k, swp_length]
    · rfl
theorem symM_length : ∀ (f a m b : Nat) (l : List α), (symM d lt f a m b l).length = l.length
  | 0, a, m, b, l => rfl
  | f + 1, a, m, b, l => by
    rw [symM]
    split
    · exact shUp_length d _ _ _
    split
    · exact shDn_length d _ _ _
    dsimp only
    generalize symAt d lt a m b l = s
    have h1 : (symRot d m s ((a + b) / 2 + m - s) l).length = l.length := by
      unfold symRot
      split
      · exact rotL_length d _ _ _ _ _
      · rfl
    have h2 : (if a < s ∧ s < (a + b) / 2 then symM d lt f a s ((a + b) / 2) (symRot d m s ((a + b) / 2 + m - s) l) else symRot d m s ((a + b) / 2 + m - s) l).length = l.length := by
      split
      · rw [symM_length f, h1]
      · exact h1
    split
    · rw [symM_length f, h2]
    · exact h2
end

section
variable {α : Type} (d : α) (lt : α → α → Bool)

theorem set_at (P T : List α) (x y : α) : (P ++ x :: T).set P.length y = P ++ y :: T := by simp
theorem nth_at (P T : List α) (x : α) {k : Nat} (h : k = P.length) : nth d (P ++ x :: T) k = x := by subst h; simp [nth, List.getD]
theorem swp_at (P M S : List α) (x y : α) {i j : Nat} (hi : i = P.length) (hj : j = P.length + (M.length + 1)) : swp d (P ++ x :: (M ++ y :: S)) i j = P ++ y :: (M ++ x :: S) := by
  subst hi hj
  have e1 : P ++ x :: (M ++ y :: S) = (P ++ x :: M) ++ y :: S := by simp
  have e2 : nth d (P ++ x :: (M ++ y :: S)) (P.length + (M.length + 1)) = y := by rw [e1]; exact nth_at d _ _ _ (by simp)
  have e3 : P ++ y :: (M ++ y :: S) = (P ++ y :: M) ++ y :: S := by simp
  have e4 : P.length + (M.length + 1) = (P ++ y :: M).length := by simp
  rw [swp, e2, nth_at d _ _ _ rfl, set_at, e3, e4, set_at]
  simp
theorem swp_comm (l : List α) {i j : Nat} (h : i ≠ j) : swp d l i j = swp d l j i := by
  unfold swp
  exact List.set_comm _ _ h
theorem swp_next (P S : List α) (x y : α) {i : Nat} (hi : i = P.length) : swp d (P ++ x :: y :: S) (i + 1) i = P ++ y :: x :: S := by
  rw [swp_comm d _ (by omega)]
  exact swp_at d P [] S x y hi (by simp [hi])

/-- x goes behind all that it is not ahead of; r is the list backwards -/
def insR (x : α) : List α → List α
  | [] => [x]
  | y :: r => if lt x y = true then y :: insR x r else x :: y :: r
theorem insR_length (x : α) : ∀ r : List α, (insR lt x r).length = r.length + 1
  | [] => rfl
  | y :: r => by
    unfold insR
    split
    · simp [insR_length x r]
    · simp
theorem insDown_eq (P : List α) (x : α) : ∀ (r S : List α), insDown d lt P.length (P.length + r.length) (P ++ r.reverse ++ x :: S) = P ++ (insR lt x r).reverse ++ S
  | [], S => by
    cases hp : P.length with
    | zero => simp [insDown, insR]
    | succ k => simp [insDown, insR]
  | y :: r, S => by
    have e1 : P ++ (y :: r).reverse ++ x :: S = (P ++ r.reverse) ++ y :: x :: S := by simp
    have e2 : P.length + (y :: r).length = (P.length + r.length) + 1 := by simp; omega
    have e3 : nth d ((P ++ r.reverse) ++ y :: x :: S) (P.length + r.length) = y := nth_at d _ _ _ (by simp)
    have e4 : nth d ((P ++ r.reverse) ++ y :: x :: S) (P.length + r.length + 1) = x := by
      have : (P ++ r.reverse) ++ y :: x :: S = (P ++ r.reverse ++ [y]) ++ x :: S := by simp
      rw [this]; exact nth_at d _ _ _ (by simp; omega)
    rw [e1, e2, insDown, e3, e4, insR]
    by_cases hl : lt x y = true
    · rw [if_pos ⟨by omega, hl⟩, if_pos hl, swp_next d _ _ _ _ (by simp), insDown_eq P x r (y :: S)]
      simp
    · rw [if_neg (fun h => hl h.2), if_neg hl]
      simp
/-- sorted from the front on; out is what is sorted, backwards -/
def insF (out : List α) : List α → List α
  | [] => out
  | x :: r => insF (insR lt x out) r
theorem refS_eq : ∀ (r out : List α), refS d lt out.reverse r = (insF lt out r).reverse
  | [], out => rfl
  | x :: r, out => by
    have h := insDown_eq d lt [] x out []
    simp only [List.length_nil, Nat.zero_add, List.nil_append, List.append_nil] at h
    rw [refS, insF, List.length_reverse, h, refS_eq r]
theorem insAll_eq (P : List α) : ∀ (r out S : List α) (b : Nat), b = P.length + out.length + r.length → insAll d lt P.length b r.length (P ++ out.reverse ++ (r ++ S)) = P ++ (insF lt out r).reverse ++ S
  | [], out, S, b, hb => by simp [insAll, insF]
  | x :: r, out, S, b, hb => by
    simp only [List.length_cons] at hb
    have hi : b - (r.length + 1) = P.length + out.length := by omega
    rw [List.length_cons, insAll, hi, List.cons_append, insDown_eq d lt P x out (r ++ S), insAll_eq P r (insR lt x out) S b (by rw [insR_length]; omega), insF]
theorem insSort_eq (P M S : List α) : insSort d lt P.length (P.length + M.length) (P ++ M ++ S) = P ++ refS d lt [] M ++ S := by
  cases M with
  | nil => simp [insSort, insAll, refS, show P.length - (P.length + 1) = 0 by omega]
  | cons x r =>
    have h := insAll_eq d lt P r [x] S (P.length + (r.length + 1)) (by simp; omega)
    have h2 := refS_eq d lt (x :: r) []
    rw [insF, insR, List.reverse_nil] at h2
    rw [insSort, h2, ← h]
    simp only [List.length_cons]
    rw [show P.length + (r.length + 1) - (P.length + 1) = r.length by omega]
    simp

/-- two stretches of the same length exchange their places -/
theorem swpR_eq (P M S : List α) : ∀ (X2 Y2 Y1 X1 : List α) (a b i : Nat), X2.length = Y2.length → X1.length = Y1.length → a = P.length → i = Y1.length → b = P.length + (Y1.length + X2.length) + M.length →
    swpR d a b i X2.length (P ++ (Y1 ++ X2) ++ M ++ (X1 ++ Y2) ++ S) = P ++ (Y1 ++ Y2) ++ M ++ (X1 ++ X2) ++ S
  | [], [], Y1, X1, a, b, i, _, _, _, _, _ => by simp [swpR]
  | x :: X2, y :: Y2, Y1, X1, a, b, i, h1, h2, ha, hi, hb => by
    simp only [List.length_cons] at h1 hb
    have e := swp_at d (P ++ Y1) (X2 ++ M ++ X1) (Y2 ++ S) x y (i := a + i) (j := b + i) (by simp; omega) (by simp; omega)
    have ih := swpR_eq P M S X2 Y2 (Y1 ++ [y]) (X1 ++ [x]) a b (i + 1) (by omega) (by simp; omega) ha (by simp; omega) (by simp; omega)
    have e1 : P ++ (Y1 ++ x :: X2) ++ M ++ (X1 ++ y :: Y2) ++ S = (P ++ Y1) ++ x :: ((X2 ++ M ++ X1) ++ y :: (Y2 ++ S)) := by simp
    rw [List.length_cons, swpR, e1, e]
    have e2 : (P ++ Y1) ++ y :: ((X2 ++ M ++ X1) ++ x :: (Y2 ++ S)) = P ++ ((Y1 ++ [y]) ++ X2) ++ M ++ ((X1 ++ [x]) ++ Y2) ++ S := by simp
    rw [e2, ih]
    simp
  | [], _ :: _, _, _, _, _, _, h, _, _, _, _ => by cases h
  | _ :: _, [], _, _, _, _, _, h, _, _, _, _ => by cases h
theorem swpR_two (P X M Y S : List α) {a b n : Nat} (hn : n = X.length) (hy : n = Y.length) (ha : a = P.length) (hb : b = P.length + X.length + M.length) : swpR d a b 0 n (P ++ X ++ M ++ Y ++ S) = P ++ Y ++ M ++ X ++ S := by
  subst hn
  have h := swpR_eq d P M S X Y [] [] a b 0 hy rfl ha rfl (by simp; omega)
  simpa using h
theorem rotL_eq (m : Nat) : ∀ (f : Nat) (P A B S : List α) (i j : Nat), i + j ≤ f → 0 < i → 0 < j → A.length = i → B.length = j → m = P.length + i → rotL d m f i j (P ++ A ++ B ++ S) = P ++ B ++ A ++ S
  | 0, P, A, B, S, i, j, hf, hi, hj, _, _, _ => by omega
  | f + 1, P, A, B, S, i, j, hf, hi, hj, hA, hB, hm => by
    unfold rotL
    by_cases he : i = j
    · rw [if_pos he]
      have h := swpR_two d P A [] B S (a := m - i) (b := m) (n := i) hA.symm (by omega) (by omega) (by simp; omega)
      simpa using h
    · rw [if_neg he]
      by_cases hlt : j < i
      · rw [if_pos hlt]
        have h := swpR_two d P (A.take j) (A.drop j) B S (a := m - i) (b := m) (n := j) (by simp; omega) (by omega) (by omega) (by simp; omega)
        have e1 : P ++ A ++ B ++ S = P ++ A.take j ++ A.drop j ++ B ++ S := by simp
        have e2 : P ++ B ++ A.drop j ++ A.take j ++ S = (P ++ B) ++ A.drop j ++ A.take j ++ S := rfl
        rw [e1, h, e2, rotL_eq m f (P ++ B) (A.drop j) (A.take j) S (i - j) j (by omega) (by omega) hj (by simp; omega) (by simp; omega) (by simp; omega)]
        simp
      · rw [if_neg hlt]
        have h := swpR_two d P A (B.take (j - i)) (B.drop (j - i)) S (a := m - i) (b := m + j - i) (n := i) hA.symm (by simp; omega) (by omega) (by simp; omega)
        have e1 : P ++ A ++ B ++ S = P ++ A ++ B.take (j - i) ++ B.drop (j - i) ++ S := by simp
        have e2 : P ++ B.drop (j - i) ++ B.take (j - i) ++ A ++ S = P ++ B.drop (j - i) ++ B.take (j - i) ++ (A ++ S) := by simp
        rw [e1, h, e2, rotL_eq m f P (B.drop (j - i)) (B.take (j - i)) (A ++ S) i (j - i) (by omega) hi (by omega) (by simp; omega) (by simp; omega) hm]
        simp
theorem rot_eq (P A B S : List α) {s m e : Nat} (hs : s = P.length) (hm : m = P.length + A.length) (he : e = m + B.length) (hA : 0 < A.length) (hB : 0 < B.length) : rot d s m e (P ++ A ++ B ++ S) = P ++ B ++ A ++ S := by
  unfold rot
  exact rotL_eq d m (e - s) P A B S (m - s) (e - m) (by omega) (by omega) (by omega) (by omega) (by omega) (by omega)
theorem bsF_spec (p : Nat → Bool) : ∀ (f i j : Nat), j - i < f → i ≤ j → (∀ c c', i ≤ c → c ≤ c' → c' < j → p c' = true → p c = true) →
    i ≤ bsF p f i j ∧ bsF p f i j ≤ j ∧ (∀ c, i ≤ c → c < bsF p f i j → p c = true) ∧ (∀ c, bsF p f i j ≤ c → c < j → p c = false)
  | 0, i, j, hf, _, _ => by omega
  | f + 1, i, j, hf, hij, hm => by
    unfold bsF
    by_cases hlt : i < j
    · rw [if_pos hlt]
      by_cases hp : p ((i + j) / 2) = true
      · rw [if_pos hp]
        obtain ⟨h1, h2, h3, h4⟩ := bsF_spec p f ((i + j) / 2 + 1) j (by omega) (by omega) (fun c c' hc => hm c c' (by omega))
        exact ⟨by omega, h2, fun c hc hc2 => if hh : c ≤ (i + j) / 2 then hm c _ hc hh (by omega) hp else h3 c (by omega) hc2, h4⟩
      · rw [if_neg hp]
        obtain ⟨h1, h2, h3, h4⟩ := bsF_spec p f i ((i + j) / 2) (by omega) (by omega) (fun c c' hc hcc hj => hm c c' hc hcc (by omega))
        refine ⟨h1, by omega, h3, fun c hc hc2 => ?_⟩
        by_cases hh : c < (i + j) / 2
        · exact h4 c hc hh
        · cases hpc : p c with
          | false => rfl
          | true => exact absurd (hm _ c (by omega) (by omega) hc2 hpc) hp
    · rw [if_neg hlt]
      exact ⟨by omega, by omega, fun c h1 h2 => by omega, fun c h1 h2 => by omega⟩
end

section
variable {α : Type} (d : α) (lt : α → α → Bool)

theorem shUp_eq (x : α) : ∀ (R P S : List α) (k : Nat), k = P.length → shUp d k R.length (P ++ x :: (R ++ S)) = P ++ R ++ x :: S
  | [], P, S, k, _ => by simp [shUp]
  | y :: R, P, S, k, hk => by
    rw [List.length_cons, shUp, List.cons_append, swp_comm d _ (by omega), swp_next d P _ _ _ hk]
    have h := shUp_eq x R (P ++ [y]) S (k + 1) (by simp; omega)
    simpa using h
theorem shDn_eq (y : α) (Q : List α) : ∀ (r S : List α), shDn d Q.length (Q.length + r.length) (Q ++ r.reverse ++ y :: S) = Q ++ y :: (r.reverse ++ S)
  | [], S => by
    cases hp : Q.length with
    | zero => simp [shDn]
    | succ k => simp [shDn]
  | x :: r, S => by
    have e1 : Q ++ (x :: r).reverse ++ y :: S = (Q ++ r.reverse) ++ x :: y :: S := by simp
    have e2 : Q.length + (x :: r).length = (Q.length + r.length) + 1 := by simp; omega
    rw [e1, e2, shDn, if_pos (by omega), swp_next d _ _ _ _ (by simp), shDn_eq y Q r (x :: S)]
    simp
theorem nth_in (P L S : List α) {c : Nat} (h1 : P.length ≤ c) (h2 : c < P.length + L.length) : nth d (P ++ L ++ S) c = nth d L (c - P.length) := by
  unfold nth
  rw [List.append_assoc]
  simp only [List.getD]
  rw [List.getElem?_append_right h1, List.getElem?_append_left (by omega)]
theorem mem_take {L : List α} {k : Nat} {x : α} (h : x ∈ L.take k) : ∃ i, i < k ∧ i < L.length ∧ x = nth d L i := by
  obtain ⟨i, hi, rfl⟩ := List.getElem_of_mem h
  simp at hi
  exact ⟨i, by omega, by omega, by rw [nth_get d L i (by omega)]; simp⟩
theorem mem_drop {L : List α} {k : Nat} {x : α} (h : x ∈ L.drop k) : ∃ i, k ≤ i ∧ i < L.length ∧ x = nth d L i := by
  obtain ⟨i, hi, rfl⟩ := List.getElem_of_mem h
  simp at hi
  exact ⟨k + i, by omega, by omega, by rw [nth_get d L _ (by omega)]; simp⟩
theorem pw_nth {T : α → α → Prop} {L : List α} (h : L.Pairwise T) {i j : Nat} (hij : i < j) (hj : j < L.length) : T (nth d L i) (nth d L j) := by
  rw [nth_get d L i (by omega), nth_get d L j hj]
  exact List.pairwise_iff_getElem.1 h i j _ _ hij
theorem pw_lo {T : α → α → Prop} (htr : ∀ x y z, T x y → T y z → T x z) {L : List α} (h : L.Pairwise T) {i j : Nat} (hij : i ≤ j) (hj : j < L.length) {z : α} (hz : T (nth d L j) z) : T (nth d L i) z := by
  by_cases he : i = j
  · rw [he]; exact hz
  · exact htr _ _ _ (pw_nth d h (by omega) hj) hz
theorem pw_hi {T : α → α → Prop} (htr : ∀ x y z, T x y → T y z → T x z) {L : List α} (h : L.Pairwise T) {i j : Nat} (hij : i ≤ j) (hj : j < L.length) {z : α} (hz : T z (nth d L i)) : T z (nth d L j) := by
  by_cases he : i = j
  · rw [← he]; exact hz
  · exact htr _ _ _ hz (pw_nth d h (by omega) hj)

/-- what symMerge asks of its two parts -/
structure Cross (T : α → α → Prop) (L R : List α) : Prop where
  left : L.Pairwise T
  right : R.Pairwise T
  yes : ∀ x ∈ L, ∀ y ∈ R, lt y x = true → T y x
  no : ∀ x ∈ L, ∀ y ∈ R, lt y x = false → T x y
theorem Cross.sub {T : α → α → Prop} {L R L' R' : List α} (h : Cross lt T L R) (hl : List.Sublist L' L) (hr : List.Sublist R' R) : Cross lt T L' R' :=
  ⟨h.left.sublist hl, h.right.sublist hr, fun x hx y hy => h.yes x (hl.subset hx) y (hr.subset hy), fun x hx y hy => h.no x (hl.subset hx) y (hr.subset hy)⟩
theorem Cross.ge {T : α → α → Prop} (hir : ∀ x, ¬ T x x) (htr : ∀ x y z, T x y → T y z → T x z) {L R : List α} (h : Cross lt T L R) {x y : α} (hx : x ∈ L) (hy : y ∈ R) (ht : T x y) : lt y x = false := by
  cases hl : lt y x with
  | false => rfl
  | true => exact absurd (htr _ _ _ ht (h.yes x hx y hy hl)) (hir x)
theorem Cross.lt_ {T : α → α → Prop} (hir : ∀ x, ¬ T x x) (htr : ∀ x y z, T x y → T y z → T x z) {L R : List α} (h : Cross lt T L R) {x y : α} (hx : x ∈ L) (hy : y ∈ R) (ht : T y x) : lt y x = true := by
  cases hl : lt y x with
  | true => rfl
  | false => exact absurd (htr _ _ _ ht (h.no x hx y hy hl)) (hir y)
theorem symRot_eq (P L1 L2 R1 R2 S : List α) {m s e : Nat} (hs : s = P.length + L1.length) (hm : m = s + L2.length) (he : e = m + R1.length) : symRot d m s e (P ++ (L1 ++ L2) ++ (R1 ++ R2) ++ S) = P ++ L1 ++ R1 ++ (L2 ++ R2 ++ S) := by
  unfold symRot
  by_cases h : s < m ∧ m < e
  · rw [if_pos h]
    have hr := rot_eq d (P ++ L1) L2 R1 (R2 ++ S) (s := s) (m := m) (e := e) (by simp; omega) (by simp; omega) (by omega) (by omega) (by omega)
    simpa using hr
  · rw [if_neg h]
    by_cases h1 : L2 = []
    · subst h1; simp
    · have h2 : R1 = [] := by
        have : L2.length ≠ 0 := fun h => h1 (List.eq_nil_of_length_eq_zero h)
        apply List.eq_nil_of_length_eq_zero
        omega
      subst h2; simp
end

section
variable {α : Type} (d : α) (lt : α → α → Bool)
theorem nth_two (P L R S : List α) {c : Nat} (h1 : P.length + L.length ≤ c) (h2 : c < P.length + L.length + R.length) : nth d (P ++ L ++ R ++ S) c = nth d R (c - (P.length + L.length)) := by
  have := nth_in d (P ++ L) R S (c := c) (by simp; omega) (by simp; omega)
  simpa using this
theorem nth_one (P L R S : List α) {c : Nat} (h1 : P.length ≤ c) (h2 : c < P.length + L.length) : nth d (P ++ L ++ R ++ S) c = nth d L (c - P.length) := by
  have := nth_in d P L (R ++ S) (c := c) h1 h2
  simpa using this

theorem symM_one {T : α → α → Prop} (hir : ∀ x, ¬ T x x) (htr : ∀ x y z, T x y → T y z → T x z) (P S : List α) (x : α) (R : List α) (h : Cross lt T [x] R) :
    ∃ M, shUp d P.length (bsF (fun h => lt (nth d (P ++ [x] ++ R ++ S) h) (nth d (P ++ [x] ++ R ++ S) P.length)) (P.length + 1 + R.length - (P.length + 1) + 1) (P.length + 1) (P.length + 1 + R.length) - 1 - P.length) (P ++ [x] ++ R ++ S) = P ++ M ++ S ∧ M.Perm ([x] ++ R) ∧ M.Pairwise T := by
  have hx : nth d (P ++ [x] ++ R ++ S) P.length = x := by
    have e : P ++ [x] ++ R ++ S = P ++ x :: (R ++ S) := by simp
    rw [e]; exact nth_at d _ _ _ rfl
  have hR : ∀ c, P.length + 1 ≤ c → c < P.length + 1 + R.length → nth d (P ++ [x] ++ R ++ S) c = nth d R (c - (P.length + 1)) := fun c h1 h2 => nth_two d P [x] R S (by simpa using h1) (by simpa using h2)
  obtain ⟨h1, h2, h3, h4⟩ := bsF_spec (fun h => lt (nth d (P ++ [x] ++ R ++ S) h) (nth d (P ++ [x] ++ R ++ S) P.length)) (P.length + 1 + R.length - (P.length + 1) + 1) (P.length + 1) (P.length + 1 + R.length) (by omega) (by omega) (fun c c' hc hcc hc' hp => by
    simp only [hx, hR c hc (by omega), hR c' (by omega) hc'] at hp ⊢
    have hy := h.yes x (by simp) _ (nth_mem d R _ (by omega)) hp
    exact h.lt_ lt hir htr (by simp) (nth_mem d R _ (by omega)) (pw_lo d htr h.right (by omega) (by omega) hy))
  generalize bsF (fun h => lt (nth d (P ++ [x] ++ R ++ S) h) (nth d (P ++ [x] ++ R ++ S) P.length)) (P.length + 1 + R.length - (P.length + 1) + 1) (P.length + 1) (P.length + 1 + R.length) = i at *
  obtain ⟨k, rfl⟩ : ∃ k, i = P.length + 1 + k := ⟨i - (P.length + 1), by omega⟩
  have hk : (R.take k).length = k := by simp; omega
  have e := shUp_eq d x (R.take k) P (R.drop k ++ S) P.length rfl
  rw [hk] at e
  have e1 : P ++ [x] ++ R ++ S = P ++ x :: (R.take k ++ (R.drop k ++ S)) := by
    rw [← List.append_assoc (R.take k), List.take_append_drop]; simp
  have e2 : P.length + 1 + k - 1 - P.length = k := by omega
  refine ⟨R.take k ++ x :: R.drop k, ?_, ?_, ?_⟩
  · rw [e2, e1, e]; simp
  · refine List.perm_middle.trans ?_
    simp
  · refine List.pairwise_append.2 ⟨h.right.sublist (List.take_sublist _ _), List.pairwise_cons.2 ⟨fun y hy => ?_, h.right.sublist (List.drop_sublist _ _)⟩, fun y hy z hz => ?_⟩
    · obtain ⟨j, hj, hjl, rfl⟩ := mem_drop d hy
      have := h4 (P.length + 1 + j) (by omega) (by omega)
      simp only [hx, hR _ (Nat.le_add_right _ j) (by omega), Nat.add_sub_cancel_left] at this
      exact h.no x (by simp) _ (nth_mem d R _ hjl) this
    · obtain ⟨j, hj, hjl, rfl⟩ := mem_take d hy
      have := h3 (P.length + 1 + j) (by omega) (by omega)
      simp only [hx, hR _ (Nat.le_add_right _ j) (by omega), Nat.add_sub_cancel_left] at this
      have hyx := h.yes x (by simp) _ (nth_mem d R _ hjl) this
      rcases List.mem_cons.1 hz with rfl | hz
      · exact hyx
      · obtain ⟨j2, hj2, hjl2, rfl⟩ := mem_drop d hz
        exact pw_nth d h.right (by omega) hjl2
theorem symM_last {T : α → α → Prop} (hir : ∀ x, ¬ T x x) (htr : ∀ x y z, T x y → T y z → T x z) (P S L : List α) (y : α) (h : Cross lt T L [y]) :
    ∃ M, shDn d (bsF (fun h => !lt (nth d (P ++ L ++ [y] ++ S) (P.length + L.length)) (nth d (P ++ L ++ [y] ++ S) h)) (P.length + L.length - P.length + 1) P.length (P.length + L.length)) (P.length + L.length) (P ++ L ++ [y] ++ S) = P ++ M ++ S ∧ M.Perm (L ++ [y]) ∧ M.Pairwise T := by
  have hy : nth d (P ++ L ++ [y] ++ S) (P.length + L.length) = y := by
    have e : P ++ L ++ [y] ++ S = (P ++ L) ++ y :: S := by simp
    rw [e]; exact nth_at d _ _ _ (by simp)
  have hL : ∀ c, P.length ≤ c → c < P.length + L.length → nth d (P ++ L ++ [y] ++ S) c = nth d L (c - P.length) := fun c h1 h2 => nth_one d P L [y] S h1 h2
  obtain ⟨h1, h2, h3, h4⟩ := bsF_spec (fun h => !lt (nth d (P ++ L ++ [y] ++ S) (P.length + L.length)) (nth d (P ++ L ++ [y] ++ S) h)) (P.length + L.length - P.length + 1) P.length (P.length + L.length) (by omega) (by omega) (fun c c' hc hcc hc' hp => by
    simp only [hy, hL c hc (by omega), hL c' (by omega) hc', Bool.not_eq_true'] at hp ⊢
    have hT := h.no _ (nth_mem d L _ (by omega)) y (by simp) hp
    exact h.ge lt hir htr (nth_mem d L _ (by omega)) (by simp) (pw_lo d htr h.left (by omega) (by omega) hT))
  generalize bsF (fun h => !lt (nth d (P ++ L ++ [y] ++ S) (P.length + L.length)) (nth d (P ++ L ++ [y] ++ S) h)) (P.length + L.length - P.length + 1) P.length (P.length + L.length) = i at *
  obtain ⟨k, rfl⟩ : ∃ k, i = P.length + k := ⟨i - P.length, by omega⟩
  have e := shDn_eq d y (P ++ L.take k) (L.drop k).reverse S
  have e0 : (P ++ L.take k).length = P.length + k := by simp; omega
  have e1 : (P ++ L.take k).length + (L.drop k).reverse.length = P.length + L.length := by simp; omega
  rw [e1, e0, List.reverse_reverse] at e
  have e2 : P ++ L ++ [y] ++ S = P ++ L.take k ++ L.drop k ++ y :: S := by simp
  refine ⟨L.take k ++ y :: L.drop k, ?_, ?_, ?_⟩
  · rw [e2, e]; simp
  · refine List.perm_middle.trans ?_
    rw [List.take_append_drop]
    exact (List.perm_append_singleton y L).symm
  · refine List.pairwise_append.2 ⟨h.left.sublist (List.take_sublist _ _), List.pairwise_cons.2 ⟨fun x hx => ?_, h.left.sublist (List.drop_sublist _ _)⟩, fun x hx z hz => ?_⟩
    · obtain ⟨j, hj, hjl, rfl⟩ := mem_drop d hx
      have := h4 (P.length + j) (by omega) (by omega)
      simp only [hy, hL _ (Nat.le_add_right _ j) (by omega), Nat.add_sub_cancel_left, Bool.not_eq_false'] at this
      exact h.yes _ (nth_mem d L _ hjl) y (by simp) this
    · obtain ⟨j, hj, hjl, rfl⟩ := mem_take d hx
      have := h3 (P.length + j) (by omega) (by omega)
      simp only [hy, hL _ (Nat.le_add_right _ j) (by omega), Nat.add_sub_cancel_left, Bool.not_eq_true'] at this
      have hxy := h.no _ (nth_mem d L _ hjl) y (by simp) this
      rcases List.mem_cons.1 hz with rfl | hz
      · exact hxy
      · obtain ⟨j2, hj2, hjl2, rfl⟩ := mem_drop d hz
        exact pw_nth d h.left (by omega) hjl2
end

section
variable {α : Type} (d : α) (lt : α → α → Bool)
/-- where symMerge parts the two: s of the left stay in the lower half; all of the lower half is ahead of all of the upper -/
theorem symAt_spec {T : α → α → Prop} (hir : ∀ x, ¬ T x x) (htr : ∀ x y z, T x y → T y z → T x z) (P L R S : List α) (h : Cross lt T L R) {a m b : Nat} (ha : a = P.length) (hm : m = a + L.length) (hb : b = m + R.length) (hl2 : 2 ≤ L.length) (hr2 : 2 ≤ R.length) :
    ∃ u v, symAt d lt a m b (P ++ L ++ R ++ S) = a + u ∧ a + u + v = (a + b) / 2 ∧ u ≤ L.length ∧ v ≤ R.length ∧ (∀ x ∈ L.take u, ∀ y ∈ R.drop v, T x y) ∧ (∀ x ∈ R.take v, ∀ y ∈ L.drop u, T x y) := by
  have hL : ∀ c, a ≤ c → c < m → nth d (P ++ L ++ R ++ S) c = nth d L (c - a) := fun c h1 h2 => by rw [nth_one d P L R S (by omega) (by omega), ha]
  have hR : ∀ c, m ≤ c → c < b → nth d (P ++ L ++ R ++ S) c = nth d R (c - m) := fun c h1 h2 => by rw [nth_two d P L R S (by omega) (by omega), hm, ha]
  have hlo : a ≤ symLo a m b := by unfold symLo; split <;> omega
  have hhi : symHi a m b ≤ m := by unfold symHi; split <;> omega
  have hlh : symLo a m b ≤ symHi a m b := by unfold symLo symHi; split <;> omega
  have hq : ∀ c, symLo a m b ≤ c → c < symHi a m b → m ≤ (a + b) / 2 + m - 1 - c ∧ (a + b) / 2 + m - 1 - c < b := by
    intro c h1 h2
    unfold symLo at h1
    unfold symHi at h2
    by_cases hh : (a + b) / 2 < m
    · rw [if_pos hh] at h1 h2; omega
    · rw [if_neg hh] at h1 h2; omega
  have hmid : symHi a m b ≤ (a + b) / 2 := by unfold symHi; split <;> omega
  obtain ⟨h1, h2, h3, h4⟩ := bsF_spec (fun c => !lt (nth d (P ++ L ++ R ++ S) ((a + b) / 2 + m - 1 - c)) (nth d (P ++ L ++ R ++ S) c)) (symHi a m b - symLo a m b + 1) (symLo a m b) (symHi a m b) (by omega) hlh (fun c c' hc hcc hc' hp => by
    have q1 := hq c hc (by omega)
    have q2 := hq c' (by omega) hc'
    simp only [hR _ q1.1 q1.2, hR _ q2.1 q2.2, hL c (by omega) (by omega), hL c' (by omega) (by omega), Bool.not_eq_true'] at hp ⊢
    have hT := h.no _ (nth_mem d L _ (by omega)) _ (nth_mem d R _ (by omega)) hp
    exact h.ge lt hir htr (nth_mem d L _ (by omega)) (nth_mem d R _ (by omega)) (pw_lo d htr h.left (show c - a ≤ c' - a by omega) (by omega) (pw_hi d htr h.right (show (a + b) / 2 + m - 1 - c' - m ≤ (a + b) / 2 + m - 1 - c - m by omega) (by omega) hT)))
  have hs : symAt d lt a m b (P ++ L ++ R ++ S) = bsF (fun c => !lt (nth d (P ++ L ++ R ++ S) ((a + b) / 2 + m - 1 - c)) (nth d (P ++ L ++ R ++ S) c)) (symHi a m b - symLo a m b + 1) (symLo a m b) (symHi a m b) := rfl
  rw [← hs] at h1 h2 h3 h4
  generalize symAt d lt a m b (P ++ L ++ R ++ S) = s at *
  clear hs
  obtain ⟨u, rfl⟩ : ∃ u, s = a + u := ⟨s - a, by omega⟩
  obtain ⟨v, hv⟩ : ∃ v, a + u + v = (a + b) / 2 := ⟨(a + b) / 2 - (a + u), by omega⟩
  have hvR : v ≤ R.length := by
    unfold symLo at h1
    split at h1 <;> omega
  refine ⟨u, v, rfl, hv, by omega, hvR, fun x hx y hy => ?_, fun y hy x hx => ?_⟩
  · obtain ⟨i, hi, hil, rfl⟩ := mem_take d hx
    obtain ⟨j, hj, hjl, rfl⟩ := mem_drop d hy
    have hgt : symLo a m b < a + u := by
      rcases Nat.lt_or_ge (symLo a m b) (a + u) with hh | hh
      · exact hh
      · exfalso
        have he : symLo a m b = a + u := by omega
        unfold symLo at he
        split at he <;> omega
    have hp := h3 (a + u - 1) (by omega) (by omega)
    have q := hq (a + u - 1) (by omega) (by omega)
    simp only [hR _ q.1 q.2, hL (a + u - 1) (by omega) (by omega), Bool.not_eq_true'] at hp
    have hT := h.no _ (nth_mem d L _ (by omega)) _ (nth_mem d R _ (by omega)) hp
    exact pw_lo d htr h.left (show i ≤ a + u - 1 - a by omega) (by omega) (pw_hi d htr h.right (show (a + b) / 2 + m - 1 - (a + u - 1) - m ≤ j by omega) hjl hT)
  · obtain ⟨i, hi, hil, rfl⟩ := mem_drop d hx
    obtain ⟨j, hj, hjl, rfl⟩ := mem_take d hy
    have hgt : a + u < symHi a m b := by
      rcases Nat.lt_or_ge (a + u) (symHi a m b) with hh | hh
      · exact hh
      · exfalso
        have he : symHi a m b = a + u := by omega
        unfold symHi at he
        split at he <;> omega
    have hp := h4 (a + u) (by omega) (by omega)
    have q := hq (a + u) (by omega) (by omega)
    simp only [hR _ q.1 q.2, hL (a + u) (by omega) (by omega), Bool.not_eq_false'] at hp
    have hT := h.yes _ (nth_mem d L _ (by omega)) _ (nth_mem d R _ (by omega)) hp
    exact pw_lo d htr h.right (show j ≤ (a + b) / 2 + m - 1 - (a + u) - m by omega) (by omega) (pw_hi d htr h.left (show a + u - a ≤ i by omega) hil hT)
theorem symM_sorts {T : α → α → Prop} (hir : ∀ x, ¬ T x x) (htr : ∀ x y z, T x y → T y z → T x z) : ∀ (f : Nat) (P L R S : List α) (a m b : Nat), Cross lt T L R → L.length + R.length ≤ f → 0 < L.length → 0 < R.length → a = P.length → m = a + L.length → b = m + R.length →
    ∃ M, symM d lt f a m b (P ++ L ++ R ++ S) = P ++ M ++ S ∧ M.Perm (L ++ R) ∧ M.Pairwise T
  | 0, P, L, R, S, a, m, b, h, hf, hl, hr, ha, hm, hb => by omega
  | f + 1, P, L, R, S, a, m, b, h, hf, hl, hr, ha, hm, hb => by
    rw [symM]
    by_cases c1 : m - a = 1
    · rw [if_pos c1]
      obtain ⟨x, rfl⟩ : ∃ x, L = [x] := List.length_eq_one_iff.1 (by omega)
      obtain ⟨M, hM⟩ := symM_one d lt hir htr P S x R h
      have e1 : m = P.length + 1 := by omega
      have e2 : b = P.length + 1 + R.length := by omega
      rw [ha, e1, e2]
      exact ⟨M, hM⟩
    rw [if_neg c1]
    by_cases c2 : b - m = 1
    · rw [if_pos c2]
      obtain ⟨y, rfl⟩ : ∃ y, R = [y] := List.length_eq_one_iff.1 (by omega)
      obtain ⟨M, hM⟩ := symM_last d lt hir htr P S L y h
      have e1 : m = P.length + L.length := by omega
      rw [ha, e1]
      exact ⟨M, hM⟩
    rw [if_neg c2]
    obtain ⟨u, v, hs, hv, hu, hvR, hlo, hhi⟩ := symAt_spec d lt hir htr P L R S h ha hm hb (by omega) (by omega)
    dsimp only
    rw [hs]
    have hr1 := symRot_eq d P (L.take u) (L.drop u) (R.take v) (R.drop v) S (m := m) (s := a + u) (e := (a + b) / 2 + m - (a + u)) (by simp; omega) (by simp; omega) (by simp; omega)
    rw [List.take_append_drop, List.take_append_drop] at hr1
    rw [hr1]
    have hM1 : ∃ M1, (if a < a + u ∧ a + u < (a + b) / 2 then symM d lt f a (a + u) ((a + b) / 2) (P ++ L.take u ++ R.take v ++ (L.drop u ++ R.drop v ++ S)) else P ++ L.take u ++ R.take v ++ (L.drop u ++ R.drop v ++ S)) = P ++ M1 ++ (L.drop u ++ R.drop v ++ S) ∧ M1.Perm (L.take u ++ R.take v) ∧ M1.Pairwise T := by
      split
      · exact symM_sorts hir htr f P (L.take u) (R.take v) (L.drop u ++ R.drop v ++ S) a (a + u) ((a + b) / 2) (h.sub lt (List.take_sublist _ _) (List.take_sublist _ _)) (by simp; omega) (by simp; omega) (by simp; omega) ha (by simp; omega) (by simp; omega)
      · refine ⟨L.take u ++ R.take v, by simp, List.Perm.refl _, ?_⟩
        by_cases hu0 : u = 0
        · subst hu0
          simpa using h.right.sublist (List.take_sublist v R)
        · have hv0 : v = 0 := by omega
          subst hv0
          simpa using h.left.sublist (List.take_sublist u L)
    obtain ⟨M1, e1, p1, s1⟩ := hM1
    rw [e1]
    have hl1 : M1.length = u + v := by rw [p1.length_eq]; simp; omega
    have hM2 : ∃ M2, (if (a + b) / 2 < (a + b) / 2 + m - (a + u) ∧ (a + b) / 2 + m - (a + u) < b then symM d lt f ((a + b) / 2) ((a + b) / 2 + m - (a + u)) b (P ++ M1 ++ (L.drop u ++ R.drop v ++ S)) else P ++ M1 ++ (L.drop u ++ R.drop v ++ S)) = P ++ (M1 ++ M2) ++ S ∧ M2.Perm (L.drop u ++ R.drop v) ∧ M2.Pairwise T := by
      split
      · obtain ⟨M2, e2, p2, s2⟩ := symM_sorts hir htr f (P ++ M1) (L.drop u) (R.drop v) S ((a + b) / 2) ((a + b) / 2 + m - (a + u)) b (h.sub lt (List.drop_sublist _ _) (List.drop_sublist _ _)) (by simp; omega) (by simp; omega) (by simp; omega) (by simp; omega) (by simp; omega) (by simp; omega)
        refine ⟨M2, ?_, p2, s2⟩
        have e3 : P ++ M1 ++ (L.drop u ++ R.drop v ++ S) = P ++ M1 ++ L.drop u ++ R.drop v ++ S := by simp
        rw [e3, e2]; simp
      · refine ⟨L.drop u ++ R.drop v, by simp, List.Perm.refl _, ?_⟩
        by_cases hu0 : L.drop u = []
        · rw [hu0]
          simpa using h.right.sublist (List.drop_sublist v R)
        · have hv0 : R.drop v = [] := by
            apply List.drop_eq_nil_of_le
            have : u < L.length := by
              rcases Nat.lt_or_ge u L.length with hh | hh
              · exact hh
              · exact absurd (List.drop_eq_nil_of_le hh) hu0
            omega
          rw [hv0]
          simpa using h.left.sublist (List.drop_sublist u L)
    obtain ⟨M2, e2, p2, s2⟩ := hM2
    refine ⟨M1 ++ M2, e2, ?_, List.pairwise_append.2 ⟨s1, s2, fun x hx y hy => ?_⟩⟩
    · refine (p1.append p2).trans ?_
      have e3 : L ++ R = (L.take u ++ L.drop u) ++ (R.take v ++ R.drop v) := by rw [List.take_append_drop, List.take_append_drop]
      rw [e3, List.append_assoc, List.append_assoc]
      refine List.Perm.append_left _ ?_
      rw [← List.append_assoc, ← List.append_assoc]
      exact List.perm_append_comm.append_right _
    · have hx1 := p1.mem_iff.1 hx
      have hy1 := p2.mem_iff.1 hy
      rcases List.mem_append.1 hx1 with hx2 | hx2 <;> rcases List.mem_append.1 hy1 with hy2 | hy2
      · obtain ⟨i, hi, hil, rfl⟩ := mem_take d hx2
        obtain ⟨j, hj, hjl, rfl⟩ := mem_drop d hy2
        exact pw_nth d h.left (by omega) hjl
      · exact hlo x hx2 y hy2
      · exact hhi x hx2 y hy2
      · obtain ⟨i, hi, hil, rfl⟩ := mem_take d hx2
        obtain ⟨j, hj, hjl, rfl⟩ := mem_drop d hy2
        exact pw_nth d h.right (by omega) hjl
end

section
variable {α β : Type}
theorem nth_map (g : β → α) (d : β) (l : List β) (k : Nat) : nth (g d) (l.map g) k = g (nth d l k) := by
  unfold nth
  simp only [List.getD, List.getElem?_map]
  cases l[k]? <;> rfl
variable (g : β → α) (d : β) (lt : α → α → Bool)
theorem map_swp (l : List β) (i j : Nat) : (swp d l i j).map g = swp (g d) (l.map g) i j := by
  simp only [swp, List.map_set, nth_map]
theorem map_swpR (a b : Nat) : ∀ (n i : Nat) (l : List β), (swpR d a b i n l).map g = swpR (g d) a b i n (l.map g)
  | 0, i, l => rfl
  | n + 1, i, l => by rw [swpR, swpR, map_swpR a b n, map_swp]
theorem map_rotL (m : Nat) : ∀ (f i j : Nat) (l : List β), (rotL d m f i j l).map g = rotL (g d) m f i j (l.map g)
  | 0, i, j, l => rfl
  | f + 1, i, j, l => by
    rw [rotL, rotL]
    split
    · rw [map_swpR]
    · split
      · rw [map_rotL m f, map_swpR]
      · rw [map_rotL m f, map_swpR]
theorem map_shUp : ∀ (n k : Nat) (l : List β), (shUp d k n l).map g = shUp (g d) k n (l.map g)
  | 0, k, l => rfl
  | n + 1, k, l => by rw [shUp, shUp, map_shUp n, map_swp]
theorem map_shDn (i : Nat) : ∀ (k : Nat) (l : List β), (shDn d i k l).map g = shDn (g d) i k (l.map g)
  | 0, l => rfl
  | k + 1, l => by
    rw [shDn, shDn]
    split
    · rw [map_shDn i k, map_swp]
    · rfl
theorem map_symRot (m s e : Nat) (l : List β) : (symRot d m s e l).map g = symRot (g d) m s e (l.map g) := by
  unfold symRot rot
  split
  · rw [map_rotL]
  · rfl
theorem map_symM : ∀ (f a m b : Nat) (l : List β), (symM d (fun x y => lt (g x) (g y)) f a m b l).map g = symM (g d) lt f a m b (l.map g)
  | 0, a, m, b, l => rfl
  | f + 1, a, m, b, l => by
    have hs : symAt d (fun x y => lt (g x) (g y)) a m b l = symAt (g d) lt a m b (l.map g) := by simp only [symAt, nth_map]
    rw [symM, symM]
    by_cases c1 : m - a = 1
    · rw [if_pos c1, if_pos c1, map_shUp]
      simp only [nth_map]
    rw [if_neg c1, if_neg c1]
    by_cases c2 : b - m = 1
    · rw [if_pos c2, if_pos c2, map_shDn]
      simp only [nth_map]
    rw [if_neg c2, if_neg c2]
    dsimp only
    rw [hs]
    generalize symAt (g d) lt a m b (l.map g) = s
    by_cases c3 : a < s ∧ s < (a + b) / 2 <;> by_cases c4 : (a + b) / 2 < (a + b) / 2 + m - s ∧ (a + b) / 2 + m - s < b <;> simp only [c3, c4, and_self, if_true, if_false, map_symM f, map_symRot]
theorem map_insR (x : β) : ∀ r : List β, (insR (fun x y => lt (g x) (g y)) x r).map g = insR lt (g x) (r.map g)
  | [] => rfl
  | y :: r => by
    rw [insR, List.map_cons, insR]
    split
    · rw [List.map_cons, map_insR x r]
    · rfl
theorem map_insF : ∀ (r out : List β), (insF (fun x y => lt (g x) (g y)) out r).map g = insF lt (out.map g) (r.map g)
  | [], out => rfl
  | x :: r, out => by rw [insF, List.map_cons, insF, map_insF r, map_insR]
theorem map_refS (r : List β) : (refS d (fun x y => lt (g x) (g y)) [] r).map g = refS (g d) lt [] (r.map g) := by
  have h1 := refS_eq d (fun x y => lt (g x) (g y)) r []
  have h2 := refS_eq (g d) lt (r.map g) []
  rw [List.reverse_nil] at h1 h2
  rw [h1, h2, List.map_reverse, map_insF]
  rfl
end
section
variable {α : Type} (d : α) (lt : α → α → Bool)
/-- ahead, or at the same place and of the smaller number -/
def Tag (x y : α × Nat) : Prop := lt x.1 y.1 = true ∨ (lt y.1 x.1 = false ∧ x.2 < y.2)
theorem tag_irr (h1 : ∀ x, lt x x = false) (x : α × Nat) : ¬ Tag lt x x := by
  rintro (h | h)
  · rw [h1] at h; cases h
  · omega
theorem tag_trans (h2 : ∀ x y z, lt x y = true → lt y z = true → lt x z = true) (h3 : ∀ x y z, lt x y = false → lt y z = false → lt x z = false) (x y z : α × Nat) (a : Tag lt x y) (b : Tag lt y z) : Tag lt x z := by
  rcases a with a | ⟨a, a2⟩ <;> rcases b with b | ⟨b, b2⟩
  · exact .inl (h2 _ _ _ a b)
  · left
    cases h : lt x.1 z.1 with
    | true => rfl
    | false => rw [h3 _ _ _ h b] at a; cases a
  · left
    cases h : lt x.1 z.1 with
    | true => rfl
    | false => rw [h3 _ _ _ a h] at b; cases b
  · exact .inr ⟨h3 _ _ _ b a, by omega⟩
theorem insR_perm {β : Type} (lt : β → β → Bool) (x : β) : ∀ r : List β, (insR lt x r).Perm (x :: r)
  | [] => List.Perm.refl _
  | y :: r => by
    unfold insR
    split
    · exact ((insR_perm lt x r).cons y).trans (List.Perm.swap _ _ _)
    · exact List.Perm.refl _
theorem insF_perm {β : Type} (lt : β → β → Bool) : ∀ (r out : List β), (insF lt out r).Perm (out ++ r)
  | [], out => by simp [insF]
  | x :: r, out => by
    rw [insF]
    refine (insF_perm lt r _).trans (((insR_perm lt x out).append_right r).trans ?_)
    exact (List.perm_middle (l₁ := out) (l₂ := r) (a := x)).symm
theorem insR_sorted (h2 : ∀ x y z, lt x y = true → lt y z = true → lt x z = true) (h3 : ∀ x y z, lt x y = false → lt y z = false → lt x z = false) (x : α × Nat) : ∀ r : List (α × Nat), r.Pairwise (fun a b => Tag lt b a) → (∀ y ∈ r, y.2 < x.2) → (insR (fun a b => lt a.1 b.1) x r).Pairwise (fun a b => Tag lt b a)
  | [], _, _ => by simp [insR]
  | y :: r, hs, ht => by
    have hs' := List.pairwise_cons.1 hs
    unfold insR
    split
    · rename_i hl
      refine List.pairwise_cons.2 ⟨fun z hz => ?_, insR_sorted h2 h3 x r hs'.2 (fun z hz => ht z (List.mem_cons_of_mem _ hz))⟩
      rcases List.mem_cons.1 ((insR_perm _ x r).mem_iff.1 hz) with rfl | hz
      · exact .inl hl
      · exact hs'.1 z hz
    · rename_i hl
      have hyx : Tag lt y x := .inr ⟨by simpa using hl, ht y (by simp)⟩
      refine List.pairwise_cons.2 ⟨fun z hz => ?_, hs⟩
      rcases List.mem_cons.1 hz with rfl | hz
      · exact hyx
      · exact tag_trans lt h2 h3 _ _ _ (hs'.1 z hz) hyx
theorem insF_sorted (h2 : ∀ x y z, lt x y = true → lt y z = true → lt x z = true) (h3 : ∀ x y z, lt x y = false → lt y z = false → lt x z = false) : ∀ (r out : List (α × Nat)), out.Pairwise (fun a b => Tag lt b a) → r.Pairwise (fun a b => a.2 < b.2) → (∀ x ∈ out, ∀ y ∈ r, x.2 < y.2) → (insF (fun a b => lt a.1 b.1) out r).Pairwise (fun a b => Tag lt b a)
  | [], out, ho, _, _ => ho
  | x :: r, out, ho, hr, hx => by
    have hr' := List.pairwise_cons.1 hr
    rw [insF]
    refine insF_sorted h2 h3 r _ (insR_sorted lt h2 h3 x out ho (fun y hy => hx y hy x (by simp))) hr'.2 (fun y hy z hz => ?_)
    rcases List.mem_cons.1 ((insR_perm _ x out).mem_iff.1 hy) with rfl | hy
    · exact hr'.1 z hz
    · exact hx y hy z (List.mem_cons_of_mem _ hz)
theorem refS_sorted (h2 : ∀ x y z, lt x y = true → lt y z = true → lt x z = true) (h3 : ∀ x y z, lt x y = false → lt y z = false → lt x z = false) (r : List (α × Nat)) (hr : r.Pairwise (fun a b => a.2 < b.2)) : (refS (d, 0) (fun a b => lt a.1 b.1) [] r).Pairwise (Tag lt) ∧ (refS (d, 0) (fun a b => lt a.1 b.1) [] r).Perm r := by
  have h1 := refS_eq (d, 0) (fun a b => lt a.1 b.1) r []
  rw [List.reverse_nil] at h1
  rw [h1]
  exact ⟨List.pairwise_reverse.2 (insF_sorted lt h2 h3 r [] List.Pairwise.nil hr (by simp)), (List.reverse_perm _).trans ((insF_perm _ r []).trans (by simp))⟩
theorem stab_tag (h1 : ∀ x, lt x x = false) (h2 : ∀ x y z, lt x y = true → lt y z = true → lt x z = true) (h3 : ∀ x y z, lt x y = false → lt y z = false → lt x z = false) (t : List (α × Nat)) (ht : t.Pairwise (fun a b => a.2 < b.2)) :
    stab (d, 0) (fun a b => lt a.1 b.1) t = refS (d, 0) (fun a b => lt a.1 b.1) [] t := by
  unfold stab
  split
  · have := insSort_eq (d, 0) (fun a b => lt a.1 b.1) [] t []
    simpa using this
  · rename_i hn
    have hA : (t.take 20).length = 20 := by simp; omega
    have hB : (t.drop 20).length = t.length - 20 := by simp
    have e1 := insSort_eq (d, 0) (fun a b => lt a.1 b.1) [] (t.take 20) (t.drop 20)
    simp only [List.length_nil, Nat.zero_add, List.nil_append, hA, List.take_append_drop] at e1
    obtain ⟨sA, pA⟩ := refS_sorted d lt h2 h3 (t.take 20) (ht.sublist (List.take_sublist _ _))
    obtain ⟨sB, pB⟩ := refS_sorted d lt h2 h3 (t.drop 20) (ht.sublist (List.drop_sublist _ _))
    obtain ⟨sT, pT⟩ := refS_sorted d lt h2 h3 t ht
    have e2 := insSort_eq (d, 0) (fun a b => lt a.1 b.1) (refS (d, 0) (fun a b => lt a.1 b.1) [] (t.take 20)) (t.drop 20) []
    rw [pA.length_eq, hA, hB, List.append_nil, List.append_nil, show 20 + (t.length - 20) = t.length by omega] at e2
    (try dsimp only)
    rw [e1, e2]
    have hcr : Cross (fun a b => lt a.1 b.1) (Tag lt) (refS (d, 0) (fun a b => lt a.1 b.1) [] (t.take 20)) (refS (d, 0) (fun a b => lt a.1 b.1) [] (t.drop 20)) := by
      refine ⟨sA, sB, fun x hx y hy h => .inl h, fun x hx y hy h => .inr ⟨h, ?_⟩⟩
      have hx1 := pA.mem_iff.1 hx
      have hy1 := pB.mem_iff.1 hy
      rw [← List.take_append_drop 20 t] at ht
      exact (List.pairwise_append.1 ht).2.2 x hx1 y hy1
    have key : ∀ M : List (α × Nat), M.Perm (refS (d, 0) (fun a b => lt a.1 b.1) [] (t.take 20) ++ refS (d, 0) (fun a b => lt a.1 b.1) [] (t.drop 20)) → M.Pairwise (Tag lt) → M = refS (d, 0) (fun a b => lt a.1 b.1) [] t := by
      intro M pM sM
      refine List.Perm.eq_of_pairwise (le := Tag lt) (fun a b _ _ x y => absurd (tag_trans lt h2 h3 _ _ _ x y) (tag_irr lt h1 a)) sM sT ?_
      refine pM.trans ((pA.append pB).trans ?_)
      rw [List.take_append_drop]
      exact pT.symm
    split
    · rename_i hlt
      obtain ⟨M, eM, pM, sM⟩ := symM_sorts (d, 0) (fun a b => lt a.1 b.1) (tag_irr lt h1) (tag_trans lt h2 h3) t.length [] _ _ [] 0 20 t.length hcr (by rw [pA.length_eq, pB.length_eq, hA, hB]; omega) (by rw [pA.length_eq, hA]; omega) (by rw [pB.length_eq, hB]; omega) rfl (by rw [pA.length_eq, hA]) (by rw [pB.length_eq, hB]; omega)
      simp only [List.nil_append, List.append_nil] at eM
      rw [eM]
      exact key M pM sM
    · have hb : refS (d, 0) (fun a b => lt a.1 b.1) [] (t.drop 20) = [] := List.eq_nil_of_length_eq_zero (by rw [pB.length_eq, hB]; omega)
      refine key _ (List.Perm.refl _) ?_
      rw [hb, List.append_nil]
      exact sA
theorem map_stab (t : List (α × Nat)) : (stab (d, 0) (fun a b => lt a.1 b.1) t).map Prod.fst = stab d lt (t.map Prod.fst) := by
  have hi : ∀ (P M S : List (α × Nat)), (P ++ refS (d, 0) (fun a b => lt a.1 b.1) [] M ++ S).map Prod.fst = P.map Prod.fst ++ refS d lt [] (M.map Prod.fst) ++ S.map Prod.fst := fun P M S => by
    have := map_refS Prod.fst (d, 0) lt M
    simp only [List.map_append]
    rw [this]
  have hins : ∀ (a b : Nat) (l : List (α × Nat)), a ≤ b → b ≤ l.length → (insSort (d, 0) (fun a b => lt a.1 b.1) a b l).map Prod.fst = insSort d lt a b (l.map Prod.fst) := by
    intro a b l hab hbl
    have e : l = l.take a ++ (l.drop a).take (b - a) ++ (l.drop a).drop (b - a) := by rw [List.append_assoc, List.take_append_drop, List.take_append_drop]
    generalize h1 : l.take a = P at e
    generalize h2 : (l.drop a).take (b - a) = M at e
    generalize h3 : (l.drop a).drop (b - a) = S at e
    have hP : P.length = a := by rw [← h1]; simp; omega
    have hM : P.length + M.length = b := by rw [hP, ← h2]; simp; omega
    have q1 := insSort_eq (d, 0) (fun a b => lt a.1 b.1) P M S
    have q2 := insSort_eq d lt (P.map Prod.fst) (M.map Prod.fst) (S.map Prod.fst)
    simp only [List.length_map] at q2
    rw [hM] at q1 q2
    rw [hP] at q1 q2
    rw [e, q1, hi, ← q2]
    simp only [List.map_append]
  unfold stab
  simp only [List.length_map]
  split
  · exact hins _ _ _ (by omega) (by omega)
  · (try dsimp only)
    have e0 : (insSort (d, 0) (fun a b => lt a.1 b.1) 0 20 t).length = t.length := insAll_length _ _ _ _ _ _
    split
    · have := map_symM Prod.fst (d, 0) lt t.length 0 20 t.length (insSort (d, 0) (fun a b => lt a.1 b.1) 20 t.length (insSort (d, 0) (fun a b => lt a.1 b.1) 0 20 t))
      rw [this, hins _ _ _ (by omega) (by omega), hins _ _ _ (by omega) (by omega)]
    · rw [hins _ _ _ (by omega) (by omega), hins _ _ _ (by omega) (by omega)]
theorem stab_eq (h1 : ∀ x, lt x x = false) (h2 : ∀ x y z, lt x y = true → lt y z = true → lt x z = true) (h3 : ∀ x y z, lt x y = false → lt y z = false → lt x z = false) (l : List α) : stab d lt l = refS d lt [] l := by
  have e : (l.zip (List.range l.length)).map Prod.fst = l := by rw [List.map_fst_zip]; simp
  have ht : (l.zip (List.range l.length)).Pairwise (fun a b => a.2 < b.2) := by
    rw [List.pairwise_iff_getElem]
    intro i j hi hj hij
    simp
    exact hij
  have h := stab_tag d lt h1 h2 h3 _ ht
  have q1 := map_stab d lt (l.zip (List.range l.length))
  have q2 := map_refS Prod.fst (d, 0) lt (l.zip (List.range l.length))
  rw [e] at q1 q2
  rw [← q1, ← q2, h]
end
end Go.Proofs.Ytolpgblegbahgaa
