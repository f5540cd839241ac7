/- How long the parts of two lists of mappings are, and how large. No condition: no program is in sight here. -/
import Derived.Test.YtecnkeakmedgnaaPart
namespace Go.Proofs.Ytecnkeakmedgnaa
open Go.RowKit

theorem glue_len (ks : List (Int × Int)) : ∀ out : List Pt, (glue out ks).length ≤ out.length + ks.length := by
  induction ks with
  | nil => intro out; exact Nat.le_refl _
  | cons q ks ih =>
    intro out
    have h1 := ih (addP out q.1 q.2)
    have h2 := addP_length out q.1 q.2
    have h3 : glue out (q :: ks) = glue (addP out q.1 q.2) ks := rfl
    rw [h3, List.length_cons]
    omega
theorem keys_len : ∀ n (a b : List Mp), a.length + b.length ≤ n → (keys a b).length ≤ a.length + b.length := by
  intro n
  induction n with
  | zero =>
    intro a b h
    have ha : a = [] := List.eq_nil_of_length_eq_zero (by omega)
    subst ha
    rw [keys_nil_left]; simp
  | succ n ih =>
    intro a b h
    cases a with
    | nil => rw [keys_nil_left]; simp
    | cons x a =>
      cases b with
      | nil => rw [keys_nil_right]; simp
      | cons y b =>
        simp only [List.length_cons] at h
        rw [keys]
        split
        · have := ih a (y :: b) (by simp; omega); simp at this ⊢; omega
        · split
          · have := ih (x :: a) b (by simp; omega); simp at this ⊢; omega
          · have := ih a b (by omega); simp; omega
theorem small_parts : ∀ n (a b : List Mp) (c : Nat) (out : List Pt), a.length + b.length ≤ n → VOk a → VOk b → Small c out → Small (c + n) (glue out (keys a b)) := by
  intro n
  induction n with
  | zero =>
    intro a b c out h _ _ hs
    obtain rfl : a = [] := List.eq_nil_of_length_eq_zero (by omega)
    obtain rfl : b = [] := List.eq_nil_of_length_eq_zero (by omega)
    rw [keys_nil_left]; exact hs
  | succ n ih =>
    intro a b c out h ha hb hs
    cases a with
    | nil =>
      cases b with
      | nil => rw [keys_nil_left]; exact hs.mono (by omega)
      | cons y b =>
        simp only [List.length_cons] at h
        rw [keys_right y [] b (.inl rfl), glue_cons]
        have := ih [] b (c + 1) _ (by simp; simp at h; omega) ha hb.tail (hs.addP_ 4 y.v hb.head.1 hb.head.2)
        exact this.mono (by omega)
    | cons x a =>
      cases b with
      | nil =>
        simp only [List.length_cons] at h
        rw [keys_left x a [] (.inl rfl), glue_cons]
        have := ih a [] (c + 1) _ (by simp; simp at h; omega) ha.tail hb (hs.addP_ 3 x.v ha.head.1 ha.head.2)
        exact this.mono (by omega)
      | cons y b =>
        simp only [List.length_cons] at h
        rcases Int.lt_trichotomy x.v y.v with hxy | hxy | hxy
        · rw [keys_lt x y a b hxy, glue_cons]
          exact (ih a (y :: b) (c + 1) _ (by simp; omega) ha.tail hb (hs.addP_ 3 x.v ha.head.1 ha.head.2)).mono (by omega)
        · rw [keys_eq x y a b hxy, glue_cons]
          exact (ih a b (c + 1) _ (by omega) ha.tail hb.tail (hs.addP_ _ x.v ha.head.1 ha.head.2)).mono (by omega)
        · rw [keys_gt x y a b hxy, glue_cons]
          exact (ih (x :: a) b (c + 1) _ (by simp; omega) ha hb.tail (hs.addP_ 4 y.v hb.head.1 hb.head.2)).mono (by omega)
theorem parts_small {a b : List Mp} (ha : chk a = 0) (hb : chk b = 0) (hn : a.length + b.length ≤ 4000) : Small 4000 (partsOf a b) := by
  have := small_parts _ a b 0 [] (Nat.le_refl _) (chk_vok ha) (chk_vok hb) (Small.nil_ _)
  exact this.mono (by omega)
theorem parts_len {a b : List Mp} : (partsOf a b).length ≤ a.length + b.length := by
  have h1 := glue_len (keys a b) []
  have h2 := keys_len _ a b (Nat.le_refl _)
  unfold partsOf
  simp at h1
  omega

end Go.Proofs.Ytecnkeakmedgnaa
