/- The reference's parts, as plain Lean, and rows of parts. Condition: none. -/
import Derived.Test.YtnemfponbadcjaaWRev3
import Derived.Test.YtnemfponbadcjaaInsP
namespace Go.Proofs.Ytnemfponbadcjaa
open Go.RowKit Go.Shelf

/-- Where the last taken mapping lies, as far as it matters. -/
def LastOk (f t : Int) (l : List Mp) (k : Nat) (x : Int) : Prop := -1 ≤ x ∧ x < k ∧ (0 < k → (x = (k : Int) - 1 ↔ inR f t (nth mp0 l (k - 1)) = true))
theorem LastOk.zero (f t : Int) (l : List Mp) : LastOk f t l 0 (-1) := ⟨by omega, by omega, fun h => by omega⟩
theorem LastOk.hit {f t : Int} {l : List Mp} {k : Nat} (h : inR f t (nth mp0 l k) = true) : LastOk f t l (k + 1) k :=
  ⟨by omega, by omega, fun _ => by rw [Nat.add_sub_cancel]; exact ⟨fun _ => h, fun _ => by omega⟩⟩
theorem LastOk.miss {f t : Int} {l : List Mp} {k : Nat} {x : Int} (hx : LastOk f t l k x) (h : inR f t (nth mp0 l k) = false) : LastOk f t l (k + 1) x :=
  ⟨hx.1, by have := hx.2.1; omega, fun _ => by rw [Nat.add_sub_cancel, h]; exact ⟨fun e => by have := hx.2.1; omega, fun e => by cases e⟩⟩
/-- The five roads of a taken mapping. -/
theorem stepB_app {id f t : Int} {l : List Mp} {k : Nat} {x : Int} {o : List Bk} (hx : LastOk f t l k x) (h : inR f t (nth mp0 l k) = true) (hn : x = (k : Int) - 1 → 0 < k → nextTo (nth mp0 l (k - 1)) (nth mp0 l k) = false) :
    stepB id f t l k o = o ++ [⟨(nth mp0 l k).b, 1, id, (nth mp0 l k).v⟩] := by
  unfold stepB
  rw [if_pos h, if_neg]
  rintro ⟨h0, h1, h2⟩
  rw [hn ((hx.2.2 h0).2 h1) h0] at h2
  cases h2
theorem stepB_bump {id f t : Int} {l : List Mp} {m : Nat} {o : List Bk} (hx : LastOk f t l (m + 1) m) (h : inR f t (nth mp0 l (m + 1)) = true) (hn : nextTo (nth mp0 l m) (nth mp0 l (m + 1)) = true) :
    stepB id f t l (m + 1) o = bumpB o := by
  unfold stepB
  rw [if_pos h, if_pos]
  have := (hx.2.2 (by omega)).1 (by omega)
  rw [Nat.add_sub_cancel] at *
  exact ⟨by omega, this, hn⟩
theorem stepB_out {id f t : Int} {l : List Mp} {k : Nat} {o : List Bk} (h : inR f t (nth mp0 l k) = false) : stepB id f t l k o = o := by
  unfold stepB
  rw [if_neg (by rw [h]; simp)]
theorem bumpB_ne {o : List Bk} (h : o ≠ []) : bumpB o ≠ [] := by
  rcases List.eq_nil_or_concat o with rfl | ⟨i, y, rfl⟩
  · exact absurd rfl h
  · rw [List.concat_eq_append, bumpB_snoc]; simp
theorem outB_ne {id f t : Int} {l : List Mp} {o : List Bk} : ∀ m, inR f t (nth mp0 l m) = true → outB id f t l o (m + 1) ≠ [] := by
  intro m
  induction m with
  | zero =>
    intro h
    show stepB id f t l 0 o ≠ []
    unfold stepB
    rw [if_pos h, if_neg (by simp)]
    simp
  | succ m ih =>
    intro h
    show stepB id f t l (m + 1) (outB id f t l o (m + 1)) ≠ []
    unfold stepB
    rw [if_pos h]
    split
    · rename_i hc
      exact bumpB_ne (ih (by simpa using hc.2.1))
    · simp
theorem stepB_small {id f t : Int} {l : List Mp} {k : Nat} {o : List Bk} {B : Int} (h : ∀ y ∈ o, y.n ≤ B) (hB : 0 ≤ B) : ∀ y ∈ stepB id f t l k o, y.n ≤ B + 1 := by
  intro y hy
  unfold stepB at hy
  split at hy
  · split at hy
    · rcases List.eq_nil_or_concat o with rfl | ⟨i, z, rfl⟩
      · simp [bumpB] at hy
      · rw [List.concat_eq_append, bumpB_snoc] at hy
        rw [List.concat_eq_append] at h
        rcases List.mem_append.1 hy with h1 | h1
        · have := h y (by simp [h1]); omega
        · rw [List.mem_singleton] at h1
          subst h1
          have := h z (by simp)
          show z.n + 1 ≤ B + 1
          omega
    · rcases List.mem_append.1 hy with h1 | h1
      · have := h y h1; omega
      · rw [List.mem_singleton] at h1
        subst h1
        show (1 : Int) ≤ B + 1
        omega
  · have := h y hy; omega
theorem outB_small {id f t : Int} {l : List Mp} {o : List Bk} {B : Int} (h : ∀ y ∈ o, y.n ≤ B) (hB : 0 ≤ B) : ∀ k : Nat, ∀ y ∈ outB id f t l o k, y.n ≤ B + k := by
  intro k
  induction k with
  | zero => intro y hy; have := h y hy; simpa using this
  | succ k ih =>
    intro y hy
    have := stepB_small (B := B + k) ih (by omega) y hy
    omega
theorem outB_pos {id f t : Int} {l : List Mp} {o : List Bk} (h : ∀ y ∈ o, 0 ≤ y.n) : ∀ k : Nat, ∀ y ∈ outB id f t l o k, 0 ≤ y.n := by
  intro k
  induction k with
  | zero => exact h
  | succ k ih =>
    intro y hy
    have hy : y ∈ stepB id f t l k (outB id f t l o k) := hy
    generalize outB id f t l o k = o at *
    unfold stepB at hy
    split at hy
    · split at hy
      · rcases List.eq_nil_or_concat o with rfl | ⟨i, z, rfl⟩
        · simp [bumpB] at hy
        · rw [List.concat_eq_append, bumpB_snoc] at hy
          rw [List.concat_eq_append] at ih
          rcases List.mem_append.1 hy with h1 | h1
          · exact ih y (by simp [h1])
          · rw [List.mem_singleton] at h1
            subst h1
            have := ih z (by simp)
            show 0 ≤ z.n + 1
            omega
      · rcases List.mem_append.1 hy with h1 | h1
        · exact ih y h1
        · rw [List.mem_singleton] at h1
          subst h1
          show (0 : Int) ≤ 1
          omega
    · exact ih y hy
theorem stepB_len {id f t : Int} {l : List Mp} {k : Nat} {o : List Bk} : (stepB id f t l k o).length ≤ o.length + 1 := by
  unfold stepB
  split
  · split
    · rcases List.eq_nil_or_concat o with rfl | ⟨i, z, rfl⟩
      · simp [bumpB]
      · rw [List.concat_eq_append, bumpB_snoc]; simp
    · simp
  · omega
theorem outB_len {id f t : Int} {l : List Mp} {o : List Bk} : ∀ k, (outB id f t l o k).length ≤ o.length + k := by
  intro k
  induction k with
  | zero => simp [outB]
  | succ k ih =>
    have := stepB_len (id := id) (f := f) (t := t) (l := l) (k := k) (o := outB id f t l o k)
    show (stepB id f t l k (outB id f t l o k)).length ≤ _
    omega
theorem rawDev_small {f t : Int} {d : Dev} : ∀ y ∈ rawDev f t d, y.n ≤ d.maps.length := by
  have h := outB_dev f t d []
  intro y hy
  have := outB_small (id := d.id) (f := f) (t := t) (l := d.maps) (o := []) (B := 0) (by simp) (by omega) d.maps.length y (by rw [h]; simpa using hy)
  omega
theorem rawDev_pos {f t : Int} {d : Dev} : ∀ y ∈ rawDev f t d, 0 ≤ y.n := by
  have h := outB_dev f t d []
  intro y hy
  exact outB_pos (id := d.id) (f := f) (t := t) (l := d.maps) (o := []) (by simp) d.maps.length y (by rw [h]; simpa using hy)
theorem flats_setB4 (x : Bk) : ∀ {l : List Bk} {i : Nat}, i < l.length → ((((flats Bk.enc l).set (i * 4) (.int .i64 x.b)).set (i * 4 + 1) (.int .i64 x.n)).set (i * 4 + 2) (.int .i64 x.id)).set (i * 4 + 3) (.int .i64 x.v) = flats Bk.enc (l.set i x) := by
  intro l
  induction l with
  | nil => intro i hi; simp at hi
  | cons m l ih =>
    intro i hi
    cases i with
    | zero => rfl
    | succ i =>
      have e : ∀ (a b c d : Value) (r : List Value) (u : Value) (j : Nat), (a :: b :: c :: d :: r).set (j + 4) u = a :: b :: c :: d :: r.set j u := fun _ _ _ _ _ _ _ => rfl
      have e0 : flats Bk.enc (m :: l) = .int .i64 m.b :: .int .i64 m.n :: .int .i64 m.id :: .int .i64 m.v :: flats Bk.enc l := rfl
      have e1 : flats Bk.enc ((m :: l).set (i + 1) x) = .int .i64 m.b :: .int .i64 m.n :: .int .i64 m.id :: .int .i64 m.v :: flats Bk.enc (l.set i x) := rfl
      rw [e0, e1, show (i + 1) * 4 = i * 4 + 4 by omega, e, show i * 4 + 4 + 1 = i * 4 + 1 + 4 by omega, e, show i * 4 + 4 + 2 = i * 4 + 2 + 4 by omega, e, show i * 4 + 4 + 3 = i * 4 + 3 + 4 by omega, e, ih (by simpa using hi)]
theorem own_setB4 {w : World} {base e g n cap k : Nat} {l : List Bk} (h : w.ownsRow base e 4 (.slice (some ⟨g, 0, none⟩) n cap) n (flats Bk.enc l)) (x : Bk) (hk : k < n) (hn : l.length = n) :
    ((((w.setCell ⟨g, k * 4, none⟩ (.int .i64 x.b)).setCell ⟨g, k * 4 + 1, none⟩ (.int .i64 x.n)).setCell ⟨g, k * 4 + 2, none⟩ (.int .i64 x.id)).setCell ⟨g, k * 4 + 3, none⟩ (.int .i64 x.v)).ownsRow base e 4 (.slice (some ⟨g, 0, none⟩) n cap) n (flats Bk.enc (l.set k x)) := by
  rw [← flats_setB4 x (by omega)]
  exact ((((h.stored _ _).1.stored _ _).1.stored _ _).1.stored _ _).1
theorem own4B {w : World} {base e g n cap k : Nat} {l : List Bk} (h : w.ownsRow base e 4 (.slice (some ⟨g, 0, none⟩) n cap) n (flats Bk.enc l)) (hk : k < n) (hn : l.length = n) :
    w.cell? ⟨g, k * 4, none⟩ = some (.int .i64 (nth bk0 l k).b) ∧ w.cell? ⟨g, k * 4 + 1, none⟩ = some (.int .i64 (nth bk0 l k).n) ∧ w.cell? ⟨g, k * 4 + 2, none⟩ = some (.int .i64 (nth bk0 l k).id) ∧ w.cell? ⟨g, k * 4 + 3, none⟩ = some (.int .i64 (nth bk0 l k).v) := by
  subst hn
  exact ⟨(h.cellAt _ (by omega)).trans (flats_get (d := bk0) Bk.enc_len l k 0 _ hk rfl), (h.cellAt _ (by omega)).trans (flats_get (d := bk0) Bk.enc_len l k 1 _ hk rfl), (h.cellAt _ (by omega)).trans (flats_get (d := bk0) Bk.enc_len l k 2 _ hk rfl), (h.cellAt _ (by omega)).trans (flats_get (d := bk0) Bk.enc_len l k 3 _ hk rfl)⟩
theorem last4B {w : World} {base e g m c : Nat} {i : List Bk} {p : Bk} (h : w.ownsRow base e 4 (.slice (some ⟨g, 0, none⟩) (m + 1) c) (m + 1) (flats Bk.enc (i ++ [p]))) (hm : i.length = m) :
    w.cell? ⟨g, m * 4 + 1, none⟩ = some (.int .i64 p.n) ∧ w.frozen? ⟨g, m * 4 + 1, none⟩ = false ∧ (w.setCell ⟨g, m * 4 + 1, none⟩ (.int .i64 (p.n + 1))).ownsRow base e 4 (.slice (some ⟨g, 0, none⟩) (m + 1) c) (m + 1) (flats Bk.enc (i ++ [⟨p.b, p.n + 1, p.id, p.v⟩])) := by
  subst hm
  refine ⟨?_, h.frozenAt _, ?_⟩
  · have := (own4B (k := i.length) h (by omega) (by simp)).2.1
    rwa [nth_append_len bk0 i [] p] at this
  · have e1 : flats Bk.enc (i ++ [⟨p.b, p.n + 1, p.id, p.v⟩]) = (flats Bk.enc (i ++ [p])).set (i.length * 4 + 1) (.int .i64 (p.n + 1)) := by
      rw [flats_append, flats_append, flats_one, flats_one]
      rw [List.set_append_right _ _ (by rw [flats_length Bk.enc_len]; omega), flats_length Bk.enc_len, show i.length * 4 + 1 - i.length * 4 = 1 from by omega]
      rfl
    rw [e1]
    exact (h.stored _ _).1
end Go.Proofs.Ytnemfponbadcjaa
