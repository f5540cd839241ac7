/- Candidates as they lie in memory: with the address and the room of their devices. No condition. -/
import Derived.Test.YtolpgblegbahgaaWRBefore
import Derived.Test.YtolpgblegbahgaaCells
namespace Go.Proofs.Ytolpgblegbahgaa
open Go.RowKit
set_option linter.unusedVariables false
set_option linter.unusedSimpArgs false

structure RC where
  c : Cand
  A : Option Addr
  n : Nat
def rc0 : RC := ⟨cand0, none, 0⟩
instance : Inhabited RC := ⟨rc0⟩
def RC.cells (r : RC) : Array Value := r.c.cells r.A r.n
def RC.enc (r : RC) : List Value := r.cells.toList
theorem RC.enc_len (r : RC) : r.enc.length = 8 := rfl
theorem RC.enc_one (r : RC) : ∀ u ∈ r.enc, u.oneCell' = true := by
  intro u hu
  simp only [RC.enc, RC.cells, Cand.cells, List.mem_cons, List.not_mem_nil, or_false] at hu
  rcases hu with rfl | rfl | rfl | rfl | rfl | rfl | rfl | rfl <;> rfl
/-- what it says lies there -/
def RC.at (w : World) (S : Nat → Prop) (r : RC) : Prop := r.c.pool.devs.length ≤ r.n ∧ DevRow w S r.A r.c.pool.devs
theorem RC.at.keep {w w' : World} {S S' : Nat → Prop} {r : RC} (h : r.at w S) (hs : ∀ b, S b → S' b) (hk : Keep S w w') : r.at w' S' := ⟨h.1, h.2.keep rdev_stable hs hk⟩
theorem RC.at.below {B : Nat} {w w' : World} {S : Nat → Prop} {r : RC} (h : r.at w S) (hB : Below B w w') (hs : ∀ b, S b → b < B) : r.at w' S := h.keep (fun _ h => h) (keep_below hB hs)
theorem RC.at.is {w : World} {S : Nat → Prop} {r : RC} (h : r.at w S) : IsCand w S (.agg r.enc.toArray) r.c := ⟨r.A, r.n, rfl, h.1, h.2⟩
theorem RC.at.rcand {w : World} {S : Nat → Prop} {r : RC} (h : r.at w S) : RCand w S r.enc r.c := ⟨r.A, r.n, rfl, h.1, h.2⟩
theorem RC.at0 (w : World) (S : Nat → Prop) : rc0.at w S := ⟨Nat.le_refl _, fun h => by simp [rc0, cand0, pool0] at h⟩
theorem nth_c (l : List RC) (k : Nat) : nth cand0 (l.map RC.c) k = (nth rc0 l k).c := by
  simp only [nth, List.getD_eq_getElem?_getD, List.getElem?_map]
  cases l[k]? <;> rfl
theorem nth_mem_rc {l : List RC} {k : Nat} (h : k < l.length) : nth rc0 l k ∈ l := by
  rw [nth_get rc0 l k h]
  exact List.getElem_mem _
/-- the eight cells of an element -/
def Cells8 (w : World) (b o : Nat) (r : RC) : Prop := w.cell? ⟨b, o, none⟩ = some (.bool r.c.super) ∧ w.cell? ⟨b, o + 1, none⟩ = some (.int .i64 r.c.top) ∧ w.cell? ⟨b, o + 2, none⟩ = some (.int .i64 r.c.details) ∧ w.cell? ⟨b, o + 3, none⟩ = some (.int .i64 r.c.pool.tx) ∧
  w.cell? ⟨b, o + 4, none⟩ = some (.int .i64 r.c.pool.time) ∧ w.cell? ⟨b, o + 5, none⟩ = some (.int .i64 r.c.pool.unit) ∧ w.cell? ⟨b, o + 6, none⟩ = some (.int .i64 r.c.pool.data) ∧ w.cell? ⟨b, o + 7, none⟩ = some (.slice r.A r.c.pool.devs.length r.n)
theorem cells8_of {w : World} {b o : Nat} {r : RC} (h : ∀ j u, r.enc[j]? = some u → w.cell? ⟨b, o + j, none⟩ = some u) : Cells8 w b o r := ⟨h 0 _ rfl, h 1 _ rfl, h 2 _ rfl, h 3 _ rfl, h 4 _ rfl, h 5 _ rfl, h 6 _ rfl, h 7 _ rfl⟩
/-- a list of candidates in memory as raw ones -/
theorem raws_of {w : World} {S : Nat → Prop} {A : Option Addr} {l : List Cand} (h : RowOf RCand 8 cand0 w S A l) :
    ∃ raws : List RC, raws.map RC.c = l ∧ (∀ r ∈ raws, r.at w S) ∧ (0 < l.length → ∃ b off, A = some ⟨b, off, none⟩ ∧ S b ∧ ∀ k, k < l.length → Cells8 w b (off + k * 8) (nth rc0 raws k)) := by
  rcases Nat.eq_zero_or_pos l.length with h0 | h0
  · obtain rfl := List.eq_nil_of_length_eq_zero h0
    exact ⟨[], rfl, by simp, fun h => by simp at h⟩
  · obtain ⟨b, off, e, hb, hc⟩ := h h0
    have hx : ∀ k, ∃ q : Option Addr × Nat, k < l.length → (⟨nth cand0 l k, q.1, q.2⟩ : RC).at w S ∧ Cells8 w b (off + k * 8) ⟨nth cand0 l k, q.1, q.2⟩ := by
      intro k
      by_cases hk : k < l.length
      · obtain ⟨cs, _, ⟨A', n', rfl, hn', hr⟩, h3⟩ := hc k hk
        exact ⟨(A', n'), fun _ => ⟨⟨hn', hr⟩, cells8_of (r := ⟨nth cand0 l k, A', n'⟩) h3⟩⟩
      · exact ⟨(none, 0), fun h => absurd h hk⟩
    obtain ⟨F, hF⟩ := Classical.skolem.1 hx
    have hnth : ∀ k, k < l.length → nth rc0 ((List.range l.length).map fun k => (⟨nth cand0 l k, (F k).1, (F k).2⟩ : RC)) k = ⟨nth cand0 l k, (F k).1, (F k).2⟩ := fun k hk => by
      rw [nth_get rc0 _ k (by simpa using hk)]
      simp
    refine ⟨(List.range l.length).map fun k => ⟨nth cand0 l k, (F k).1, (F k).2⟩, ?_, fun r hr => ?_, fun _ => ⟨b, off, e, hb, fun k hk => by rw [hnth k hk]; exact (hF k hk).2⟩⟩
    · apply List.ext_getElem?
      intro i
      by_cases hi : i < l.length
      · simp [hi, nth, List.getD]
      · simp [hi]
    · simp only [List.mem_map, List.mem_range] at hr
      obtain ⟨k, hk, rfl⟩ := hr
      exact (hF k hk).1
/-- a row of the call's own reads as the candidates of its raw ones -/
theorem raws_is {w : World} {S S' : Nat → Prop} {base e n c : Nat} {A : Option Addr} {raws : List RC} (h : w.ownsRow base e 8 (.slice A n c) n (flats RC.enc raws)) (hn : raws.length = n) (hok : ∀ r ∈ raws, r.at w S) (hs : ∀ b, S b → S' b) (hb : ∀ b, base ≤ b → b < w.heap.size → S' b) :
    IsSl RCand 8 cand0 w S' (.slice A n c) (raws.map RC.c) := by
  refine IsSl.ownCells (l := raws.map RC.c) (S := S) (e := e) (base := base) (xs := flats RC.enc raws) h (by rw [List.length_map, hn]) ⟨by rw [flats_length RC.enc_len, List.length_map], fun k hk => ?_⟩ hs hb rcand_stable
  rw [List.length_map] at hk
  refine ⟨(nth rc0 raws k).enc, rfl, by rw [nth_c]; exact (hok _ (nth_mem_rc hk)).rcand, fun j hj => ?_⟩
  have hl : j < (nth rc0 raws k).enc.length := hj
  rw [flats_get (d := rc0) RC.enc_len raws k j _ hk (List.getElem?_eq_getElem hl), List.getElem?_eq_getElem hl]
theorem own8 {w : World} {base e g n cap k : Nat} {l : List RC} (h : w.ownsRow base e 8 (.slice (some ⟨g, 0, none⟩) n cap) n (flats RC.enc l)) (hk : k < n) (hn : l.length = n) : Cells8 w g (k * 8) (nth rc0 l k) := by
  subst hn
  exact cells8_of (fun j u hu => by
    have hj : j < 8 := (List.getElem?_eq_some_iff.1 hu).1
    exact (h.cellAt _ (by omega)).trans (flats_get (d := rc0) RC.enc_len l k j _ hk hu))
end Go.Proofs.Ytolpgblegbahgaa
