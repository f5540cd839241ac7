/- The reference's place (scantlingref49): where a device stands. Condition: no slice is longer than the reach. -/
import Derived.Test.YtjeeheeaickokaaPBox
import Derived.Test.YtjeeheeaickokaaModelP
import Derived.Deep.QuietTactic
import Derived.BigQuiet
import Derived.Outline
namespace Go.Proofs.Ytjeeheeaickokaa
open Go.RowKit

/-- Where a device stands, or -1. -/
def placeI (p : Pool) (id : Int) : Int := if dhas p id = true then (dpos p id : Int) else -1
theorem placeI_at {p : Pool} {id : Int} {k : Nat} (hi : IncK Dev.id dev0 p.devs) (hk : k < p.devs.length) (he : (nth dev0 p.devs k).id = id) : placeI p id = k := by
  have h1 : dhas p id = true := (hasK_iff (d := dev0)).2 ⟨k, hk, he⟩
  unfold placeI
  rw [if_pos h1]
  have : k = dpos p id := posK_of (d := dev0) (by omega) (fun j hj => by have := hi j k hj hk; omega) (fun _ => by omega)
  omega
theorem placeI_no {p : Pool} {id : Int} (hn : ∀ j, j < p.devs.length → (nth dev0 p.devs j).id ≠ id) : placeI p id = -1 := by
  unfold placeI
  rw [if_neg]
  intro h
  obtain ⟨k, hk, he⟩ := (hasK_iff (d := dev0)).1 h
  exact hn k hk he
set_option maxHeartbeats 800000 in
theorem rplace_any (w : World) (S : Nat → Prop) (v : Value) (p : Pool) (id : Int) (hS : ∀ b, S b → b < w.heap.size) (h : IsPool w S v p) (hi : IncK Dev.id dev0 p.devs) (hn : p.devs.length ≤ 1099511627776) :
    Calls Try.prog 37 #[v, .int .i64 id] w fun e w' => e = .returned (.int .i64 (placeI p id)) ∧ Below w.heap.size w w' := by
  obtain ⟨A, c, rfl, _, hr⟩ := h
  have hw1 : Below w.heap.size w (w.alloc (poolBox p A p.devs.length c)) := (Below.refl _ _).alloc (Nat.le_refl _) _
  have hp1 := PBox.new w p A p.devs.length c
  dsimp only [poolBox] at hw1
  have HAT := Lib.hid (fun k => placeI_at (id := id) (k := k) hi)
  have HNO := Lib.hid (placeI_no (p := p) (id := id))
  clear hi
  generalize hl0 : p.devs.length = n at *
  have hl := Lib.hid hl0
  clear hl0
  generalize placeI p id = r at *
  go_enter Try.func37, Try.ntmps37
  go_wp2_with fail
  go_loop [5] (fun i => ∃ k : Nat, k ≤ n ∧ i = .int .i64 k ∧ Hid (∀ j, j < k → (nth dev0 p.devs j).id ≠ id)) (fun i => n - (intOf i).toNat)
  case atStart => exact ⟨0, by omega, rfl, Lib.hid fun j hj => absurd hj (by omega)⟩
  case round =>
    obtain ⟨k, hk, rfl, HA⟩ := hrel
    obtain ⟨x0, x1, x2, x3, x4⟩ := hp1.cells
    by_cases hlt : k < n
    · obtain ⟨b, off, rfl, hb, hc⟩ := devs_cells hr (by rw [hl.out]; omega)
      obtain ⟨c0, _⟩ := hc k (by rw [hl.out]; omega)
      have hbs := hS b hb
      clear hc
      have d0 := (hw1.cell (p := ⟨b, off + k * 5, none⟩) hbs).trans c0
      by_cases hid : (nth dev0 p.devs k).id = id
      · have hbb : ((nth dev0 p.devs k).id == id) = true := by simp [hid]
        have HR := Lib.hid (HAT.out k hlt hid)
        clear hid HA
        generalize (nth dev0 p.devs k).id = d at *
        go_wp2_with fail
        go_ret
        exact ⟨by rw [HR.out]; rfl, hw1⟩
      · have hbb : ((nth dev0 p.devs k).id == id) = false := by simp [hid]
        have hA2 : ∀ j, j < k + 1 → (nth dev0 p.devs j).id ≠ id := fun j hj => by
          by_cases e : j = k
          · rw [e]; exact hid
          · exact HA.out j (by omega)
        have HA2 := Lib.hid hA2
        clear hid HA hA2
        generalize (nth dev0 p.devs k).id = d at *
        go_wp2_with fail
        go_round
        case rel => exact ⟨k + 1, by omega, by go_num, HA2⟩
        case measure => simp [intOf]; omega
    · have HR := Lib.hid (HNO.out (fun j hj => HA.out j (by omega)))
      clear HA
      go_wp2_with fail
      go_ret
      exact ⟨by rw [HR.out]; rfl, hw1⟩
end Go.Proofs.Ytjeeheeaickokaa
