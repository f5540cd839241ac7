/- pool.Find, scantlingref18.Find: the first device of an id. Condition: no slice is longer than the reach. -/
import Derived.Test.YtobklchhlfhpjaaPBox
import Derived.Test.YtobklchhlfhpjaaWCloneM
import Derived.Test.YtobklchhlfhpjaaWRef18
namespace Go.Proofs.Ytobklchhlfhpjaa
open Go.RowKit

/-- The place of the first device of an id, or -1. -/
def FoundAt (l : List Dev) (id i : Int) : Prop := (∃ k : Nat, k < l.length ∧ i = k ∧ (nth dev0 l k).id = id ∧ ∀ j, j < k → (nth dev0 l j).id ≠ id) ∨ (i = -1 ∧ ∀ j, j < l.length → (nth dev0 l j).id ≠ id)
def findD (l : List Dev) (id : Int) : Dev := (l.find? (fun d => d.id == id)).getD dev0
def findB (l : List Dev) (id : Int) : Bool := l.any (fun d => d.id == id)
theorem found_yes {l : List Dev} {id : Int} {k : Nat} (hk : k < l.length) (h : (nth dev0 l k).id = id) (hn : ∀ j, j < k → (nth dev0 l j).id ≠ id) : findD l id = nth dev0 l k ∧ findB l id = true := by
  constructor
  · unfold findD
    have : l.find? (fun d => d.id == id) = some (nth dev0 l k) := by
      rw [List.find?_eq_some_iff_getElem]
      refine ⟨by simpa using h, k, hk, (nth_get dev0 l k hk).symm, fun j hj => ?_⟩
      have := hn j hj
      rw [nth_get dev0 l j (by omega)] at this
      simpa using this
    rw [this]; rfl
  · unfold findB
    rw [List.any_eq_true]
    exact ⟨_, nth_mem dev0 l k hk, by simpa using h⟩
theorem found_no {l : List Dev} {id : Int} (hn : ∀ j, j < l.length → (nth dev0 l j).id ≠ id) : findD l id = dev0 ∧ findB l id = false := by
  have hall : ∀ d ∈ l, d.id ≠ id := fun d hd => by
    obtain ⟨j, hj, rfl⟩ := List.getElem_of_mem hd
    have := hn j hj
    rwa [nth_get dev0 l j hj] at this
  constructor
  · unfold findD
    rw [List.find?_eq_none.2 (fun d hd => by simpa using hall d hd)]; rfl
  · unfold findB
    rw [List.any_eq_false]
    exact fun d hd => by simpa using hall d hd

theorem is_any (w : World) (d : Dev) (A : Option Addr) (n c fb : Nat) (id : Int) (hf : w.cell? ⟨fb, 0, none⟩ = some (.int .i64 id)) (hlt : fb < w.heap.size) :
    Calls Try.prog 28 #[.agg #[.int .i64 d.id, .int .i64 d.tx, .int .i64 d.made, .int .i64 d.snapped, .slice A n c], .pointer (some ⟨fb, 0, none⟩)] w fun e w' => e = .returned (.bool (d.id == id)) ∧ Below w.heap.size w w' := by
  have hB0 : Below w.heap.size w (w.alloc (.cells #[.int .i64 d.id, .int .i64 d.tx, .int .i64 d.made, .int .i64 d.snapped, .slice A n c] 40)) := (Below.refl _ _).alloc (Nat.le_refl _) _
  go_enter Try.func28, Try.ntmps28
  go_wp2
  go_ret
  exact ⟨rfl, hB0⟩

set_option maxHeartbeats 800000 in
theorem idxDev_any (w : World) (S : Nat → Prop) (v : Value) (l : List Dev) (fb : Nat) (id : Int) (hS : ∀ b, S b → b < w.heap.size) (h : IsDevs w S v l) (hn : l.length ≤ 1099511627776) (hf : w.cell? ⟨fb, 0, none⟩ = some (.int .i64 id)) (hlf : fb < w.heap.size) :
    Calls Try.prog 27 #[v, .func (.func 28) #[] #[.pointer (some ⟨fb, 0, none⟩)]] w fun e w' => ∃ i : Int, e = .returned (.int .i64 i) ∧ FoundAt l id i ∧ Below w.heap.size w w' := by
  obtain ⟨A, c, rfl, _, hr⟩ := h
  generalize hl0 : l.length = n at *
  have hl := Lib.hid hl0
  clear hl0
  go_enter Try.func27, Try.ntmps27
  go_wp2_with fail
  go_loopw [8] (fun i wr => ∃ k : Nat, k ≤ n ∧ i = .int .i64 k ∧ (∀ j, j < k → (nth dev0 l j).id ≠ id) ∧ Below w.heap.size w wr) (fun i _ => n - (intOf i).toNat)
  case atStart => exact ⟨0, by omega, rfl, fun j hj => absurd hj (by omega), Below.refl _ _⟩
  case round =>
    obtain ⟨k, hk, rfl, hA, hB⟩ := hrel
    have HA := Lib.hid hA
    have hsz := hB.size
    clear hA
    by_cases hlt : k < n
    · obtain ⟨b, off, rfl, hb, hc⟩ := devs_cells (hr.keep rdev_stable (fun _ h => h) (keep_below hB hS)) (by rw [hl.out]; omega)
      obtain ⟨c0, c1, c2, c3, A', c', c4, hc', hr'⟩ := hc k (by rw [hl.out]; omega)
      have hbs := hS b hb
      have hfw : wr.cell? ⟨fb, 0, none⟩ = some (.int .i64 id) := (hB.cell (p := ⟨fb, 0, none⟩) hlf).trans hf
      have hIS := is_any wr (nth dev0 l k) A' (nth dev0 l k).maps.length c' fb id hfw (by omega)
      have HIS := Lib.hid hIS
      clear hc hr' hIS
      by_cases hid : (nth dev0 l k).id = id
      · have hbb : ((nth dev0 l k).id == id) = true := by simp [hid]
        rw [hbb] at HIS
        have HFO : Hid (FoundAt l id k) := Lib.hid (.inl ⟨k, by rw [hl.out]; exact hlt, rfl, hid, HA.out⟩)
        clear hid hbb HA
        generalize nth dev0 l k = d at *
        go_wp2_with (go_at_call 28; refine HIS.out.mono ?_; rintro e w2 ⟨rfl, hB2⟩)
        refine bodyPost_ret (results_tmp rfl _ _ _) rfl ?_
        exact ⟨_, rfl, HFO.out, hB.trans (hB2.mono hsz)⟩
      · have hbb : ((nth dev0 l k).id == id) = false := by simp [hid]
        rw [hbb] at HIS
        have hA2 : ∀ j, j < k + 1 → (nth dev0 l j).id ≠ id := fun j hj => by
          by_cases e : j = k
          · rw [e]; exact hid
          · exact HA.out j (by omega)
        have HA2 := Lib.hid hA2
        clear hid hbb HA hA2
        generalize nth dev0 l k = d at *
        go_wp2_with (go_at_call 28; refine HIS.out.mono ?_; rintro e w2 ⟨rfl, hB2⟩)
        go_roundw
        case rel => exact ⟨k + 1, by omega, by go_num, HA2.out, hB.trans (hB2.mono hsz)⟩
        case measure => simp [intOf]; omega
    · have HFO : Hid (FoundAt l id (-1)) := Lib.hid (.inr ⟨rfl, fun j hj => HA.out j (by rw [hl.out] at hj; omega)⟩)
      clear HA
      go_wp2_with fail
      go_ret
      exact ⟨_, rfl, HFO.out, hB⟩
end Go.Proofs.Ytobklchhlfhpjaa
