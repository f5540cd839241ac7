/- What a store of an int into a pool leaves: a pool still. No condition: no program is in sight here. -/
import Derived.Test.YtlanffolgkpmkaaWTells
namespace Go.Proofs.Ytlanffolgkpmkaa
open Go.RowKit

instance : Inhabited Mp := ⟨mp0⟩
instance : Inhabited Dev := ⟨dev0⟩
theorem int_after {w : World} {q : Addr} {n0 y : Int} (h0 : w.cell? q = some (.int .i64 n0)) {a : Addr} {n : Int} (h : w.cell? a = some (.int .i64 n)) : ∃ n', (w.setCell q (.int .i64 y)).cell? a = some (.int .i64 n') := by
  by_cases e : q = a
  · subst e; exact ⟨y, World.cell?_setCell_same _ _ _ h0⟩
  · exact ⟨n, by rw [World.cell?_setCell_other _ _ _ _ e]; exact h⟩
theorem sl_after {w : World} {q : Addr} {n0 y : Int} (h0 : w.cell? q = some (.int .i64 n0)) {a : Addr} {A : Option Addr} {n c : Nat} (h : w.cell? a = some (.slice A n c)) : (w.setCell q (.int .i64 y)).cell? a = some (.slice A n c) := by
  by_cases e : q = a
  · subst e; rw [h0] at h; cases h
  · rw [World.cell?_setCell_other _ _ _ _ e]; exact h
theorem maps_after {w : World} {q : Addr} {n0 y : Int} (h0 : w.cell? q = some (.int .i64 n0)) {S : Nat → Prop} {A : Option Addr} {l : List Mp} (h : MapRow w S A l) : ∃ l', l'.length = l.length ∧ MapRow (w.setCell q (.int .i64 y)) S A l' := by
  by_cases hl : 0 < l.length
  · obtain ⟨b, off, rfl, hb, hc⟩ := maps_cells h hl
    have hex : ∀ k, k < l.length → ∃ m : Mp, (w.setCell q (.int .i64 y)).cell? ⟨b, off + k * 3, none⟩ = some (.int .i64 m.v) ∧ (w.setCell q (.int .i64 y)).cell? ⟨b, off + k * 3 + 1, none⟩ = some (.int .i64 m.b) ∧ (w.setCell q (.int .i64 y)).cell? ⟨b, off + k * 3 + 2, none⟩ = some (.int .i64 m.t) := by
      intro k hk
      obtain ⟨c0, c1, c2⟩ := hc k hk
      obtain ⟨a0, e0⟩ := int_after (y := y) h0 c0
      obtain ⟨a1, e1⟩ := int_after (y := y) h0 c1
      obtain ⟨a2, e2⟩ := int_after (y := y) h0 c2
      exact ⟨⟨a0, a1, a2⟩, e0, e1, e2⟩
    obtain ⟨f, hf⟩ := Go.Deep.choose_lt hex
    refine ⟨(List.range l.length).map f, by simp, fun _ => ⟨b, off, rfl, hb, fun k hk => ?_⟩⟩
    have hk' : k < l.length := by simpa using hk
    obtain ⟨e0, e1, e2⟩ := hf k hk'
    refine ⟨(f k).enc, rfl, ?_, fun j u hu => ?_⟩
    · show (f k).enc = Mp.enc (nth mp0 _ k)
      rw [nth_get mp0 _ k hk]
      simp
    · simp only [Mp.enc] at hu
      rcases j with _ | _ | _ | j
      · simp at hu; subst hu; exact e0
      · simp at hu; subst hu; exact e1
      · simp at hu; subst hu; exact e2
      · simp at hu
  · obtain rfl : l = [] := List.eq_nil_of_length_eq_zero (by omega)
    exact ⟨[], rfl, RowOf.nil_⟩
theorem devs_after {w : World} {q : Addr} {n0 y : Int} (h0 : w.cell? q = some (.int .i64 n0)) {S : Nat → Prop} {A : Option Addr} {l : List Dev} (h : DevRow w S A l) : ∃ l', l'.length = l.length ∧ (∀ k, (nth dev0 l' k).maps.length = (nth dev0 l k).maps.length) ∧ DevRow (w.setCell q (.int .i64 y)) S A l' := by
  by_cases hl : 0 < l.length
  · obtain ⟨b, off, rfl, hb, hc⟩ := devs_cells h hl
    have hex : ∀ k, k < l.length → ∃ d : Dev, d.maps.length = (nth dev0 l k).maps.length ∧ (w.setCell q (.int .i64 y)).cell? ⟨b, off + k * 5, none⟩ = some (.int .i64 d.id) ∧ (w.setCell q (.int .i64 y)).cell? ⟨b, off + k * 5 + 1, none⟩ = some (.int .i64 d.tx) ∧ (w.setCell q (.int .i64 y)).cell? ⟨b, off + k * 5 + 2, none⟩ = some (.int .i64 d.made) ∧ (w.setCell q (.int .i64 y)).cell? ⟨b, off + k * 5 + 3, none⟩ = some (.int .i64 d.snapped) ∧
        ∃ A' c', (w.setCell q (.int .i64 y)).cell? ⟨b, off + k * 5 + 4, none⟩ = some (.slice A' d.maps.length c') ∧ d.maps.length ≤ c' ∧ MapRow (w.setCell q (.int .i64 y)) S A' d.maps := by
      intro k hk
      obtain ⟨c0, c1, c2, c3, A', c', c4, hc', hm⟩ := hc k hk
      obtain ⟨a0, e0⟩ := int_after (y := y) h0 c0
      obtain ⟨a1, e1⟩ := int_after (y := y) h0 c1
      obtain ⟨a2, e2⟩ := int_after (y := y) h0 c2
      obtain ⟨a3, e3⟩ := int_after (y := y) h0 c3
      obtain ⟨l', hl', hm'⟩ := maps_after (y := y) h0 hm
      exact ⟨⟨a0, a1, a2, a3, l'⟩, hl', e0, e1, e2, e3, A', c', by rw [show (Dev.maps ⟨a0, a1, a2, a3, l'⟩).length = _ from hl']; exact sl_after h0 c4, by rw [show (Dev.maps ⟨a0, a1, a2, a3, l'⟩).length = _ from hl']; exact hc', hm'⟩
    obtain ⟨f, hf⟩ := Go.Deep.choose_lt hex
    have hn : ∀ k, k < l.length → nth dev0 ((List.range l.length).map f) k = f k := fun k hk => by rw [nth_get dev0 _ k (by simpa using hk)]; simp
    refine ⟨(List.range l.length).map f, by simp, fun k => ?_, fun _ => ⟨b, off, rfl, hb, fun k hk => ?_⟩⟩
    · by_cases hk : k < l.length
      · rw [hn k hk]; exact (hf k hk).1
      · unfold nth
        rw [List.getD, List.getD, List.getElem?_eq_none (by simp; omega), List.getElem?_eq_none (by omega)]
    · have hk' : k < l.length := by simpa using hk
      obtain ⟨e5, e0, e1, e2, e3, A', c', e4, hc', hm⟩ := hf k hk'
      rw [hn k hk']
      refine ⟨_, rfl, ⟨A', c', rfl, hc', hm⟩, fun j u hu => ?_⟩
      rcases j with _ | _ | _ | _ | _ | j
      · simp at hu; subst hu; exact e0
      · simp at hu; subst hu; exact e1
      · simp at hu; subst hu; exact e2
      · simp at hu; subst hu; exact e3
      · simp at hu; subst hu; exact e4
      · simp at hu
  · obtain rfl : l = [] := List.eq_nil_of_length_eq_zero (by omega)
    exact ⟨[], rfl, fun _ => rfl, RowOf.nil_⟩
/-- A pool that is changed in one number of its devices is a pool still. -/
theorem pool_after {w : World} {q : Addr} {n0 : Int} (y : Int) (h0 : w.cell? q = some (.int .i64 n0)) {S : Nat → Prop} {v : Value} {p : Pool} (h : IsPool w S v p) : ∃ p', p'.devs.length = p.devs.length ∧ (∀ k, (nth dev0 p'.devs k).maps.length = (nth dev0 p.devs k).maps.length) ∧ IsPool (w.setCell q (.int .i64 y)) S v p' := by
  obtain ⟨A, c, rfl, hc, hr⟩ := h
  obtain ⟨l', h1, h2, h3⟩ := devs_after (y := y) h0 hr
  exact ⟨⟨p.tx, p.time, p.unit, p.data, l'⟩, h1, h2, A, c, by rw [← h1], by rw [show (Pool.devs ⟨p.tx, p.time, p.unit, p.data, l'⟩).length = _ from h1]; exact hc, h3⟩

theorem xor_one (a : Int) (h : In64 a) : In64 (bits .xor .i64 a 1) ∧ bits .xor .i64 a 1 ≠ a := by
  obtain ⟨h1, h2⟩ := h
  show In64 (IntKind.i64.wrap ((BitVec.ofInt 64 a ^^^ BitVec.ofInt 64 1).toNat : Int)) ∧ IntKind.i64.wrap ((BitVec.ofInt 64 a ^^^ BitVec.ofInt 64 1).toNat : Int) ≠ a
  rw [IntKind.wrap_i64]
  have hlt := (BitVec.ofInt 64 a ^^^ BitVec.ofInt 64 1).isLt
  have hX : ((BitVec.ofInt 64 a).toNat : Int) = a % 18446744073709551616 := by rw [BitVec.toNat_ofInt]; omega
  refine ⟨⟨by omega, by omega⟩, fun e => ?_⟩
  have e2 : (BitVec.ofInt 64 a ^^^ BitVec.ofInt 64 1).toNat = (BitVec.ofInt 64 a).toNat := by omega
  have e3 : BitVec.ofInt 64 a ^^^ BitVec.ofInt 64 1 = BitVec.ofInt 64 a := BitVec.eq_of_toNat_eq e2
  have e4 : BitVec.ofInt 64 a ^^^ (BitVec.ofInt 64 a ^^^ BitVec.ofInt 64 1) = 0#64 := by rw [e3, BitVec.xor_self]
  rw [← BitVec.xor_assoc, BitVec.xor_self, BitVec.zero_xor] at e4
  exact absurd e4 (by decide)
end Go.Proofs.Ytlanffolgkpmkaa
