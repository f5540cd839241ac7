/- The counter of package refs, over a row of the call's own. Conditions: the counted thing is there, and the counts are small. -/
import Derived.Test.YtcdfbpdejbpgjaaGreatWPool1
namespace Go.Proofs.YtcdfbpdejbpgjaaGreat
open Go.RowKit

def encI (n : Int) : List Value := [.int .i64 n]
theorem encI_len (n : Int) : (encI n).length = 1 := rfl
theorem flats_encI (l : List Int) : flats encI l = l.map (Value.int .i64) := by
  induction l with
  | nil => rfl
  | cons a l ih => rw [List.map_cons, ← ih]; rfl
def bump (l : List Int) (b : Int) : List Int := l.set b.toNat (nth 0 l b.toNat + 1)
theorem bump_length (l : List Int) (b : Int) : (bump l b).length = l.length := by simp [bump]
/-- Block rb holds a counter whose counts l are a row of the call's own from 'base' on, in block g. -/
def RefIs (w : World) (rb base g : Nat) (l : List Int) : Prop :=
  ∃ cap, One w rb (.slice (some ⟨g, 0, none⟩) l.length cap) 142 ∧ w.ownsRow base 3 1 (.slice (some ⟨g, 0, none⟩) l.length cap) l.length (flats encI l) ∧ base ≤ g ∧ g < w.heap.size ∧ rb ≠ g

theorem RefIs.below {w w' : World} {rb base g : Nat} {l : List Int} (h : RefIs w rb base g l) (hb : Below w.heap.size w w') : RefIs w' rb base g l := by
  obtain ⟨cap, h1, h2, h3, h4, h5⟩ := h
  exact ⟨cap, h1.below hb h1.lt, h2.kept (row := none) ⟨hb.os, hb.tape, hb.output, hb.size, fun k hk _ => hb.block k hk⟩ (by simp [Value.ownBlock]), h3, Nat.lt_of_lt_of_le h4 hb.size, h5⟩

set_option maxHeartbeats 800000 in
theorem refsAdd_any (w : World) (rb base g : Nat) (l : List Int) (b : Int) (h : RefIs w rb base g l) (hb0 : 0 ≤ b) (hb1 : b < l.length) (_hl : l.length ≤ 65536) (hc : 0 ≤ nth 0 l b.toNat ∧ nth 0 l b.toNat ≤ 1099511627776) :
    Calls Tryz.prog 93 #[.pointer (some ⟨rb, 0, none⟩), .int .i64 b] w fun e w' => e = .returned (.tuple #[.int .i64 (nth 0 l b.toNat + 1), .int .i64 0]) ∧ w' = w.setCell ⟨g, b.toNat, none⟩ (.int .i64 (nth 0 l b.toNat + 1)) ∧ RefIs w' rb base g (bump l b) := by
  obtain ⟨cap, h1, h2, h3, h4, h5⟩ := h
  obtain ⟨k, rfl⟩ := Int.eq_ofNat_of_zero_le hb0
  rw [Int.toNat_natCast] at *
  have hk : k < l.length := by omega
  have hst := h2.stored k (.int .i64 (nth 0 l k + 1))
  have hset : (flats encI l).set k (.int .i64 (nth 0 l k + 1)) = flats encI (bump l (k : Int)) := by
    rw [flats_encI, flats_encI, bump, Int.toNat_natCast, List.map_set]
  rw [hset] at hst
  have hcell : w.cell? ⟨g, k, none⟩ = some (.int .i64 (nth 0 l k)) := by
    rw [h2.cellAt k (by omega), flats_encI, nth_get 0 l k hk]
    simp [hk]
  have hfr := h2.frozenAt k
  have q0 := h1.cell
  have HS := Lib.hid hst
  have HO := Lib.hid h1
  have hne : ¬ rb = g := h5
  have hc0 := hc.1
  have hc1 := hc.2
  clear hst hset h1 h2 hc hb1
  generalize nth 0 l k = x at *
  generalize hl0 : l.length = n at *
  have HL := Lib.hid hl0
  clear hl0
  go_enter Tryz.func93, Tryz.ntmps93
  go_wp2
  go_ret2
  refine ⟨rfl, rfl, cap, ?_, ?_, h3, by simpa using h4, h5⟩
  · rw [bump_length, HL.out]
    exact HO.out.far (p := ⟨g, k, none⟩) h5
  · rw [bump_length, HL.out]
    exact HS.out.1
end Go.Proofs.YtcdfbpdejbpgjaaGreat
