/- slices.rotateCmpFunc at candidates: two neighbouring stretches exchange their places. Condition: neither is empty, both lie in the row. -/
import Derived.Test.YtolpgblegbahgaaWSwpR
namespace Go.Proofs.Ytolpgblegbahgaa
open Go.RowKit Go.Shelf Go.Sort
set_option linter.unusedVariables false
set_option linter.unusedSimpArgs false

theorem swapRange_step {α : Type} [Inhabited α] (enc : α → List Value) (hk : ∀ x, (enc x).length = 8) (h1 : ∀ x, ∀ v ∈ enc x, v.oneCell' = true) (w : World) (blk off cap a b n q : Nat) (f : Value) (l d : List α)
    (hH : HoldsK enc 8 w blk off l.toArray) (hd : d.length = l.length) (hab : a + n ≤ b) (hb : b + n ≤ l.length) (hsz : l.length < 4611686018427387904) :
    Calls Try.prog 44 #[.slice (some ⟨blk, off, none⟩) l.length cap, .int .i64 a, .int .i64 b, .int .i64 n, f] (putRowK enc 8 (Go.Sort.ahead w q) blk off d.toArray) fun e w' =>
      e = .returned (.tuple #[]) ∧ ∃ m, w' = putRowK enc 8 (Go.Sort.ahead w m) blk off (swpR default a b 0 n d).toArray := by
  have hH2 : HoldsK enc 8 (putRowK enc 8 (Go.Sort.ahead w q) blk off d.toArray) blk off d.toArray := holdsK_putRowK enc 8 _ blk off l.toArray d.toArray (holdsK_ahead enc 8 w q blk off l.toArray hH) (by simp [hd])
  have h := swapRange_any enc hk h1 _ blk off cap a b n f d hH2 hab (by omega) (by omega)
  rw [hd] at h
  refine h.mono ?_
  rintro e w' ⟨rfl, m, rfl⟩
  refine ⟨rfl, q + m, ?_⟩
  unfold putRowK
  rw [← putRow_ahead_putRow id w q m blk off (flatK enc 8 d.toArray) _ (by simp [swpR_length])]
set_option maxRecDepth 100000 in
set_option maxHeartbeats 3200000 in
theorem rotate_any {α : Type} [Inhabited α] (enc : α → List Value) (hk : ∀ x, (enc x).length = 8) (h1 : ∀ x, ∀ v ∈ enc x, v.oneCell' = true) (w : World) (blk off cap a m b : Nat) (f : Value) (l : List α)
    (hH : HoldsK enc 8 w blk off l.toArray) (ham : a < m) (hmb : m < b) (hb : b ≤ l.length) (hsz : l.length < 4611686018427387904) :
    Calls Try.prog 43 #[.slice (some ⟨blk, off, none⟩) l.length cap, .int .i64 a, .int .i64 m, .int .i64 b, f] w fun e w' =>
      e = .returned (.tuple #[]) ∧ ∃ q, w' = putRowK enc 8 (Go.Sort.ahead w q) blk off (rot default a m b l).toArray := by
  have HS : Hid (∀ (x y n q : Nat) (d : List α), d.length = l.length → x + n ≤ y → y + n ≤ l.length → Calls Try.prog 44 #[.slice (some ⟨blk, off, none⟩) l.length cap, .int .i64 x, .int .i64 y, .int .i64 n, f] (putRowK enc 8 (Go.Sort.ahead w q) blk off d.toArray) fun e w' =>
      e = .returned (.tuple #[]) ∧ ∃ m, w' = putRowK enc 8 (Go.Sort.ahead w m) blk off (swpR default x y 0 n d).toArray) :=
    fun x y n q d hd h2 h3 => swapRange_step enc hk h1 w blk off cap x y n q f l d hH hd h2 h3 hsz
  have HST : Hid (w = putRowK enc 8 (Go.Sort.ahead w 0) blk off l.toArray) := (putRowK_self enc 8 w blk off l.toArray hH).symm
  clear hH hk h1
  obtain ⟨i0, hi0⟩ : ∃ x, x = m - a := ⟨_, rfl⟩
  obtain ⟨j0, hj0⟩ : ∃ x, x = b - m := ⟨_, rfl⟩
  have e1 : IntKind.i64.wrap ((m : Int) - (a : Int)) = (i0 : Int) := by rw [IntKind.wrap_i64]; omega
  have e2 : IntKind.i64.wrap ((b : Int) - (m : Int)) = (j0 : Int) := by rw [IntKind.wrap_i64]; omega
  have HE : Hid (i0 = m - a ∧ j0 = b - m) := ⟨hi0, hj0⟩
  clear hi0 hj0
  go_enter Try.func43, Try.ntmps43
  go_wp2_with fail
  go_loopw [10, 11] (fun vi vj wr => ∃ (i j q g : Nat) (dk : List α), vi = .int .i64 i ∧ vj = .int .i64 j ∧ 0 < i ∧ 0 < j ∧ i ≤ m - a ∧ j ≤ b - m ∧ i + j ≤ g ∧ dk.length = l.length ∧ wr = putRowK enc 8 (Go.Sort.ahead w q) blk off dk.toArray ∧ Hid (rotL default m g i j dk = rot default a m b l)) (fun vi vj _ => (intOf vi).toNat + (intOf vj).toNat)
  case atStart => exact ⟨i0, j0, 0, b - a, l, rfl, rfl, by have := HE.out; omega, by have := HE.out; omega, by have := HE.out; omega, by have := HE.out; omega, by have := HE.out; omega, rfl, HST.out, by show _ = _; rw [rot, HE.out.1, HE.out.2]⟩
  case round =>
    obtain ⟨i, j, q, g, dk, rfl, rfl, hi, hj, him, hjm, hg, hs, rfl, HI⟩ := hrel
    obtain ⟨g, rfl⟩ : ∃ g', g = g' + 1 := ⟨g - 1, by omega⟩
    obtain ⟨x, hx⟩ : ∃ x, x = m - i := ⟨_, rfl⟩
    have ex : IntKind.i64.wrap ((m : Int) - (i : Int)) = (x : Int) := by rw [IntKind.wrap_i64]; omega
    by_cases he : i = j
    · subst he
      have HX : Hid (x = m - i) := hx
      have hc := HS.out x m i q dk hs (by omega) (by omega)
      have HC := Lib.hid hc
      clear hx hc
      go_wp2_with (go_at_call 44; refine HC.out.mono ?_; rintro e w3 ⟨rfl, q3, rfl⟩)
      all_goals (try go_end0)
      refine ⟨rfl, q3, ?_⟩
      rw [← HI.out, rotL, if_pos rfl, HX.out]
    · have hez : ¬ (i : Int) = (j : Int) := by omega
      by_cases hlt : j < i
      · have hltz : (j : Int) < (i : Int) := by omega
        obtain ⟨k, hk⟩ : ∃ k, k = i - j := ⟨_, rfl⟩
        have ek : IntKind.i64.wrap ((i : Int) - (j : Int)) = (k : Int) := by rw [IntKind.wrap_i64]; omega
        have HX : Hid (x = m - i ∧ k = i - j) := ⟨hx, hk⟩
        have hc := HS.out x m j q dk hs (by omega) (by omega)
        have HC := Lib.hid hc
        clear hx hk hc
        go_wp2_with (go_at_call 44; refine HC.out.mono ?_; rintro e w3 ⟨rfl, q3, rfl⟩)
        go_round
        case measure => (have := HX.out; show ((k : Int)).toNat + ((j : Int)).toNat < ((i : Int)).toNat + ((j : Int)).toNat; omega)
        case rel => exact ⟨k, j, q3, g, _, rfl, rfl, by have := HX.out; omega, hj, by have := HX.out; omega, hjm, by have := HX.out; omega, by rw [swpR_length]; exact hs, rfl, by show _ = _; rw [← HI.out, rotL, if_neg he, if_pos hlt, HX.out.1, HX.out.2]⟩
      · have hltz : ¬ (j : Int) < (i : Int) := by omega
        obtain ⟨k, hk⟩ : ∃ k, k = j - i := ⟨_, rfl⟩
        obtain ⟨y, hy⟩ : ∃ y, y = m + j - i := ⟨_, rfl⟩
        obtain ⟨z, hz⟩ : ∃ z, z = m + j := ⟨_, rfl⟩
        have ek : IntKind.i64.wrap ((j : Int) - (i : Int)) = (k : Int) := by rw [IntKind.wrap_i64]; omega
        have ez : IntKind.i64.wrap ((m : Int) + (j : Int)) = (z : Int) := by rw [IntKind.wrap_i64]; omega
        have ey : IntKind.i64.wrap ((z : Int) - (i : Int)) = (y : Int) := by rw [IntKind.wrap_i64]; omega
        have HX : Hid (x = m - i ∧ k = j - i ∧ y = m + j - i) := ⟨hx, hk, hy⟩
        have hc := HS.out x y i q dk hs (by omega) (by omega)
        have HC := Lib.hid hc
        clear hx hk hy hz hc
        go_wp2_with (go_at_call 44; refine HC.out.mono ?_; rintro e w3 ⟨rfl, q3, rfl⟩)
        go_round
        case measure => (have := HX.out; show ((i : Int)).toNat + ((k : Int)).toNat < ((i : Int)).toNat + ((j : Int)).toNat; omega)
        case rel => exact ⟨i, k, q3, g, _, rfl, rfl, hi, by have := HX.out; omega, him, by have := HX.out; omega, by have := HX.out; omega, by rw [swpR_length]; exact hs, rfl, by show _ = _; rw [← HI.out, rotL, if_neg he, if_neg hlt, HX.out.1, HX.out.2.1, HX.out.2.2]⟩
end Go.Proofs.Ytolpgblegbahgaa
