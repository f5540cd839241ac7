/- The row that a sort turns, and the world around it. Condition: none. -/
import Derived.Test.YtolpgblegbahgaaWSwpR
namespace Go.Proofs.Ytolpgblegbahgaa
open Go.RowKit Go.Shelf Go.Sort
set_option linter.unusedVariables false
set_option linter.unusedSimpArgs false

/-- all that was there at w0, but for the block blk, is as it was -/
def Far1 (blk : Nat) (w0 w : World) : Prop := w.os = w0.os ∧ w.tape = w0.tape ∧ w.output = w0.output ∧ w0.heap.size ≤ w.heap.size ∧ ∀ x, x < w0.heap.size → x ≠ blk → w.heap[x]? = w0.heap[x]?
theorem Far1.refl (blk : Nat) (w : World) : Far1 blk w w := ⟨rfl, rfl, rfl, Nat.le_refl _, fun _ _ _ => rfl⟩
theorem Far1.trans {blk : Nat} {a b c : World} (h : Far1 blk a b) (k : Far1 blk b c) : Far1 blk a c :=
  ⟨k.1.trans h.1, k.2.1.trans h.2.1, k.2.2.1.trans h.2.2.1, Nat.le_trans h.2.2.2.1 k.2.2.2.1, fun x hx hn => (k.2.2.2.2 x (Nat.lt_of_lt_of_le hx h.2.2.2.1) hn).trans (h.2.2.2.2 x hx hn)⟩
theorem Far1.of_below {blk : Nat} {w w' : World} (h : Below w.heap.size w w') : Far1 blk w w' := ⟨h.os, h.tape, h.output, h.size, fun x hx _ => h.block x hx⟩
theorem Far1.below {blk base : Nat} {w w' : World} (h : Far1 blk w w') (hb : base ≤ blk) (hs : base ≤ w.heap.size) : Below base w w' :=
  ⟨h.1, h.2.1, h.2.2.1, h.2.2.2.1, fun k hk => h.2.2.2.2 k (by omega) (by omega)⟩
theorem Far1.set {blk : Nat} {w : World} {o : Nat} {u : Value} : Far1 blk w (w.setCell ⟨blk, o, none⟩ u) :=
  ⟨rfl, rfl, rfl, by simp [World.setCell], fun x _ hn => Below.heap_setCell w _ u x hn⟩
theorem Far1.sets {blk : Nat} : ∀ (vs : List Value) (o : Nat) (w : World), Far1 blk w (w.setCells blk o vs)
  | [], o, w => Far1.refl _ _
  | v :: r, o, w => by rw [World.setCells]; exact Far1.set.trans (Far1.sets r _ _)
theorem Far1.drew {blk : Nat} {w : World} : Far1 blk w w.drew := ⟨rfl, rfl, rfl, Nat.le_refl _, fun _ _ _ => rfl⟩
/-- the row holds d; elsewhere all that was there at w0 is as it was -/
def RowAt {α : Type} [Inhabited α] (enc : α → List Value) (w0 : World) (blk off : Nat) (w : World) (d : List α) : Prop := HoldsK enc 8 w blk off d.toArray ∧ Far1 blk w0 w ∧ blk < w0.heap.size
/-- what is asked of a comparison: it answers cf, and leaves all blocks as they were -/
def CmpBel {α : Type} [Inhabited α] (enc : α → List Value) (w0 : World) (blk off n : Nat) (fv : FuncId) (cf : α → α → Int) : Prop :=
  ∀ (w : World) (d : List α), d.length = n → RowAt enc w0 blk off w d → ∀ x y, Calls Try.prog fv #[.agg (enc x).toArray, .agg (enc y).toArray] w fun e w' => e = .returned (.int .i64 (cf x y)) ∧ Below w.heap.size w w'
theorem RowAt.below {α : Type} [Inhabited α] {enc : α → List Value} {w0 w w' : World} {blk off : Nat} {d : List α} (h : RowAt enc w0 blk off w d) (hB : Below w.heap.size w w') : RowAt enc w0 blk off w' d := by
  refine ⟨fun i hi => ?_, h.2.1.trans (Far1.of_below hB), h.2.2⟩
  have h1 := h.1 i hi
  have e := hB.block blk (Nat.lt_of_lt_of_le h.2.2 h.2.1.2.2.2.1)
  simpa [World.cell?, World.frozen?, e] using h1
theorem RowAt.swap {α : Type} [Inhabited α] {enc : α → List Value} (hk : ∀ x, (enc x).length = 8) {w0 w : World} {blk off i j : Nat} {d : List α} (h : RowAt enc w0 blk off w d) (hi : i < d.length) (hj : j < d.length) :
    RowAt enc w0 blk off ((w.drew.setCells blk (off + i * 8) (enc d.toArray[j]!)).setCells blk (off + j * 8) (enc d.toArray[i]!)) (swp default d i j) := by
  refine ⟨?_, ((h.2.1.trans Far1.drew).trans (Far1.sets _ _ _)).trans (Far1.sets _ _ _), h.2.2⟩
  have h1 : HoldsK enc 8 w.drew blk off d.toArray := h.1
  have h2 := putRowK_swp enc 8 hk w.drew blk off d.toArray i j (by simpa using hi) (by simpa using hj)
  rw [putRowK_self enc 8 w.drew blk off d.toArray h1, swp_arr d hi hj] at h2
  rw [h2]
  exact holdsK_putRowK enc 8 _ blk off d.toArray _ h1 (by simp [swp_length])
theorem RowAt.put {α : Type} [Inhabited α] {enc : α → List Value} {w0 w : World} {blk off q : Nat} {d d' : List α} (h : RowAt enc w0 blk off w d) (hl : d'.length = d.length) :
    RowAt enc w0 blk off (putRowK enc 8 (Go.Sort.ahead w q) blk off d'.toArray) d' := by
  refine ⟨holdsK_putRowK enc 8 _ blk off d.toArray _ (holdsK_ahead enc 8 w q blk off d.toArray h.1) (by simp [hl]), h.2.1.trans ⟨rfl, rfl, rfl, by simp [putRowK, putRow, mapBlock, Go.Sort.ahead], fun x _ hn => ?_⟩, h.2.2⟩
  simp [putRowK, putRow, mapBlock, Go.Sort.ahead, Array.getElem?_modify, Ne.symm hn]
/-- what a walk of two exchanging elements wants to know -/
theorem RowAt.facts {α : Type} [Inhabited α] {enc : α → List Value} (hk : ∀ x, (enc x).length = 8) (h1 : ∀ x, ∀ v ∈ enc x, v.oneCell' = true) {w0 w : World} {blk off i j k : Nat} {d : List α} (h : RowAt enc w0 blk off w d) (hi : i < d.length) (hj : j < d.length) (hk8 : k = 8) {ei ej : List Value} (hei : enc d.toArray[i]! = ei) (hej : enc d.toArray[j]! = ej) :
    Sem.run Try.prog (loadCellsFrom ⟨blk, off + i * k, none⟩ 0 k #[]) w.drew = .ok ei.toArray w.drew ∧ Sem.run Try.prog (loadCellsFrom ⟨blk, off + j * k, none⟩ 0 k #[]) w.drew = .ok ej.toArray w.drew ∧ Sem.run Try.prog (storeCells ⟨blk, off + i * k, none⟩ ej 0) w.drew = .ok () (w.drew.setCells blk (off + i * k) ej) ∧
    Sem.run Try.prog (storeCells ⟨blk, off + j * k, none⟩ ei 0) (w.drew.setCells blk (off + i * k) ej) = .ok () ((w.drew.setCells blk (off + i * k) ej).setCells blk (off + j * k) ei) ∧ ei.length = k ∧ ej.length = k ∧ RowAt enc w0 blk off ((w.drew.setCells blk (off + i * k) ej).setCells blk (off + j * k) ei) (swp default d i j) := by
  subst hei hej hk8
  have hHd : HoldsK enc 8 w.drew blk off d.toArray := h.1
  have hxd : i < d.toArray.size := by simpa using hi
  have hyd : j < d.toArray.size := by simpa using hj
  have bnd : ∀ x, x < d.toArray.size → x * 8 + 8 ≤ d.toArray.size * 8 := fun x hx => by omega
  exact ⟨run_loadCellsFrom_list Try.prog _ _ _ 8 (hk _) (HoldsK.cells hHd hk hxd), run_loadCellsFrom_list Try.prog _ _ _ 8 (hk _) (HoldsK.cells hHd hk hyd),
    stores_of_holds Try.prog hHd (i * 8) _ (by rw [hk, size_flatK]; exact bnd i hxd) (h1 _),
    stores_of_holds Try.prog (holds_setCells_c hHd (i * 8) _ (by rw [hk, size_flatK]; exact bnd i hxd)) (j * 8) _ (by rw [hk, size_setMany, size_flatK]; exact bnd j hyd) (h1 _), hk _, hk _, h.swap hk hi hj⟩
/-- what a walk of a comparison wants to know -/
theorem RowAt.loads {α : Type} [Inhabited α] {enc : α → List Value} (hk : ∀ x, (enc x).length = 8) {w0 w : World} {blk off i j k : Nat} {d : List α} (h : RowAt enc w0 blk off w d) (hi : i < d.length) (hj : j < d.length) (hk8 : k = 8) {ei ej : List Value} (hei : enc d.toArray[i]! = ei) (hej : enc d.toArray[j]! = ej) :
    ∀ w', Below w.heap.size w w' → Sem.run Try.prog (loadCellsFrom ⟨blk, off + i * k, none⟩ 0 k #[]) w' = .ok ei.toArray w' ∧ Sem.run Try.prog (loadCellsFrom ⟨blk, off + j * k, none⟩ 0 k #[]) w' = .ok ej.toArray w' := fun w' hB => by
  subst hei hej hk8
  have hHd : HoldsK enc 8 w' blk off d.toArray := (h.below hB).1
  exact ⟨run_loadCellsFrom_list Try.prog _ _ _ 8 (hk _) (HoldsK.cells hHd hk (by simpa using hi)), run_loadCellsFrom_list Try.prog _ _ _ 8 (hk _) (HoldsK.cells hHd hk (by simpa using hj))⟩
theorem arr_nth {α : Type} [Inhabited α] (l : List α) {i : Nat} (h : i < l.length) : l.toArray[i]! = nth default l i := by
  simp [nth, List.getD, h]
end Go.Proofs.Ytolpgblegbahgaa
