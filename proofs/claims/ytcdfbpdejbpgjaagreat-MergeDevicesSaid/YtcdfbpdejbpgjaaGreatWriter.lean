/- The writer's block, and what a walk may touch. No condition. -/
import Derived.Test.YtcdfbpdejbpgjaaGreatWRefsO
import Derived.Test.YtcdfbpdejbpgjaaGreatRefP
import Derived.Test.YtcdfbpdejbpgjaaGreatOwnPut
namespace Go.Proofs.YtcdfbpdejbpgjaaGreat
open Go.RowKit

/-- Blocks that R does not name are as they were. -/
def Touch (R : Nat → Prop) (w w' : World) : Prop := w'.os = w.os ∧ w'.tape = w.tape ∧ w'.output = w.output ∧ w.heap.size ≤ w'.heap.size ∧ ∀ x, x < w.heap.size → ¬ R x → w'.heap[x]? = w.heap[x]?
section
variable {R : Nat → Prop} {w w' w'' : World}
theorem Touch.refl : Touch R w w := ⟨rfl, rfl, rfl, Nat.le_refl _, fun _ _ _ => rfl⟩
theorem Touch.trans (h : Touch R w w') (k : Touch R w' w'') : Touch R w w'' :=
  ⟨k.1.trans h.1, k.2.1.trans h.2.1, k.2.2.1.trans h.2.2.1, Nat.le_trans h.2.2.2.1 k.2.2.2.1, fun x hx hr => (k.2.2.2.2 x (Nat.lt_of_lt_of_le hx h.2.2.2.1) hr).trans (h.2.2.2.2 x hx hr)⟩
theorem Touch.weak {R' : Nat → Prop} (h : Touch R w w') (hr : ∀ x, R x → R' x) : Touch R' w w' := ⟨h.1, h.2.1, h.2.2.1, h.2.2.2.1, fun x hx hn => h.2.2.2.2 x hx (fun e => hn (hr x e))⟩
theorem Touch.size (h : Touch R w w') : w.heap.size ≤ w'.heap.size := h.2.2.2.1
theorem Touch.block (h : Touch R w w') {x : Nat} (hx : x < w.heap.size) (hr : ¬ R x) : w'.heap[x]? = w.heap[x]? := h.2.2.2.2 x hx hr
theorem Touch.of_below (h : Below w.heap.size w w') : Touch R w w' := ⟨h.os, h.tape, h.output, h.size, fun x hx _ => h.block x hx⟩
theorem Touch.of_grown {row : Option Nat} (h : w.grownBy w' row) (hr : ∀ x, row = some x → R x) : Touch R w w' :=
  ⟨h.os, h.tape, h.output, h.size, fun x hx hn => h.block x hx (fun e => hn (hr x e.symm))⟩
theorem Touch.drew : Touch R w w.drew := ⟨rfl, rfl, rfl, Nat.le_refl _, fun _ _ _ => rfl⟩
theorem Touch.drewN (n : Nat) : Touch R w (w.drewN n) := ⟨rfl, rfl, rfl, Nat.le_refl _, fun _ _ _ => rfl⟩
theorem Touch.set_ {p : Addr} {u : Value} (hp : R p.block) : Touch R w (w.setCell p u) :=
  ⟨rfl, rfl, rfl, by simp [World.setCell], fun x _ hr => Below.heap_setCell w p u x (fun e => hr (by rw [e]; exact hp))⟩
theorem Touch.below {base : Nat} (h : Touch R w w') (hR : ∀ x, R x → base ≤ x) (hb : base ≤ w.heap.size) : Below base w w' :=
  ⟨h.1, h.2.1, h.2.2.1, h.size, fun x hx => h.block (by omega) (fun hr => by have := hR x hr; omega)⟩
theorem own_touch {base e size : Nat} {v : Value} {n : Nat} {xs : List Value} (h : w.ownsRow base e size v n xs) (k : Touch R w w') (hr : ∀ x, v.ownBlock = some x → ¬ R x) : w'.ownsRow base e size v n xs := by
  refine ⟨h.1, ?_⟩
  rcases h.2 with h0 | ⟨g', cap, cur, hv, hb, hg, rest⟩
  · exact .inl h0
  · exact .inr ⟨g', cap, cur, hv, hb, (k.block (Array.getElem?_eq_some_iff.1 hg).1 (hr g' (by rw [hv]; rfl))).trans hg, rest⟩
theorem OwnDevs.touch {base : Nat} {v : Value} {l : List Dev} {M : Nat → Value} (h : OwnDevs w base v l M) (k : Touch R w w') (hv : ∀ x, v.ownBlock = some x → ¬ R x) (hm : ∀ j, j < l.length → ∀ x, (M j).ownBlock = some x → ¬ R x) : OwnDevs w' base v l M := by
  obtain ⟨xs, hrow, hc, hap⟩ := h
  exact ⟨xs, own_touch hrow k hv, fun j hj => ⟨(hc j hj).1, own_touch (hc j hj).2.1 k (hm j hj), (hc j hj).2.2⟩, hap⟩
end
/-- Block bw holds just a writer. -/
def WBox (w : World) (bw g g2 k : Nat) (Ac : Option Addr) (nc cc : Nat) (next m : Int) : Prop :=
  w.heap[bw]? = some (.cells #[.pointer (some ⟨g, 0, none⟩), .pointer (some ⟨g2, k * 5, none⟩), .slice Ac nc cc, .int .i64 next, .int .i64 m] 109 (0, 0))
section
variable {w w' : World} {bw g g2 k : Nat} {Ac : Option Addr} {nc cc : Nat} {next m : Int}
theorem WBox.lt (h : WBox w bw g g2 k Ac nc cc next m) : bw < w.heap.size := (Array.getElem?_eq_some_iff.1 h).1
theorem WBox.cells (h : WBox w bw g g2 k Ac nc cc next m) : w.cell? ⟨bw, 0, none⟩ = some (.pointer (some ⟨g, 0, none⟩)) ∧ w.cell? ⟨bw, 1, none⟩ = some (.pointer (some ⟨g2, k * 5, none⟩)) ∧ w.cell? ⟨bw, 2, none⟩ = some (.slice Ac nc cc) ∧ w.cell? ⟨bw, 3, none⟩ = some (.int .i64 next) ∧ w.cell? ⟨bw, 4, none⟩ = some (.int .i64 m) := by
  unfold WBox at h
  simp [World.cell?, h]
theorem WBox.free (h : WBox w bw g g2 k Ac nc cc next m) (i : Nat) : w.frozen? ⟨bw, i, none⟩ = false := by unfold WBox at h; simp [World.frozen?, h]
theorem WBox.next_ (h : WBox w bw g g2 k Ac nc cc next m) (x : Int) : WBox (w.setCell ⟨bw, 3, none⟩ (.int .i64 x)) bw g g2 k Ac nc cc x m := by
  unfold WBox at h ⊢
  simp [World.setCell, Array.getElem?_modify, h]
theorem WBox.maps_ (h : WBox w bw g g2 k Ac nc cc next m) (x : Int) : WBox (w.setCell ⟨bw, 4, none⟩ (.int .i64 x)) bw g g2 k Ac nc cc next x := by
  unfold WBox at h ⊢
  simp [World.setCell, Array.getElem?_modify, h]
theorem WBox.touch {R : Nat → Prop} (h : WBox w bw g g2 k Ac nc cc next m) (hk : Touch R w w') (hr : ¬ R bw) : WBox w' bw g g2 k Ac nc cc next m := (hk.block h.lt hr).trans h
end
/-- Element j of a row of numbers. -/
theorem ownI_cell {w : World} {base gc nc cc : Nat} {cs : List Int} (h : w.ownsRow base 3 1 (.slice (some ⟨gc, 0, none⟩) nc cc) nc (flats encI cs)) {j : Nat} (hj : j < nc) (hn : cs.length = nc) : w.cell? ⟨gc, j, none⟩ = some (.int .i64 (nth 0 cs j)) := by
  have := h.cellAt j (by omega)
  rw [this]
  have h2 := flats_get (enc := encI) (d := (0 : Int)) encI_len cs j 0 (.int .i64 (nth 0 cs j)) (by omega) rfl
  simpa using h2
theorem ownI_set {w : World} {base gc nc cc : Nat} {cs : List Int} (h : w.ownsRow base 3 1 (.slice (some ⟨gc, 0, none⟩) nc cc) nc (flats encI cs)) {j : Nat} (x : Int) : (w.setCell ⟨gc, j, none⟩ (.int .i64 x)).ownsRow base 3 1 (.slice (some ⟨gc, 0, none⟩) nc cc) nc (flats encI (cs.set j x)) := by
  have h1 := (h.stored j (.int .i64 x)).1
  have e : (flats encI cs).set j (.int .i64 x) = flats encI (cs.set j x) := by
    rw [flats_encI, flats_encI, List.map_set]
  rwa [e] at h1
end Go.Proofs.YtcdfbpdejbpgjaaGreat
