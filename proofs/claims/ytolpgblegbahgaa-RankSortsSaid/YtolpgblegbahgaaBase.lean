/- Words for memory: a slice that reads as a list (RowOf, IsSl), what stays as it was (Keep), and small lemmas that every walk wants. No condition: no program is in sight here. -/
import Derived.WalkKit
import Derived.WalkSpells
import Derived.WalkLawsBesides
import Derived.Deep.Draws
import Derived.Lib.Hide
namespace Go.Proofs.Ytolpgblegbahgaa
open Go.RowKit

/-- Element k of a list, by default d (a name that the walk's simp leaves alone). -/
def nth {α : Type} (d : α) (l : List α) (k : Nat) : α := l.getD k d
theorem nth_get {α : Type} (d : α) (l : List α) (k : Nat) (h : k < l.length) : nth d l k = l[k] := by unfold nth; simp [h]
theorem nth_mem {α : Type} (d : α) (l : List α) (k : Nat) (h : k < l.length) : nth d l k ∈ l := by rw [nth_get d l k h]; exact List.getElem_mem h
theorem drop_nth {α : Type} (d : α) (l : List α) (k : Nat) (h : k < l.length) : l.drop k = nth d l k :: l.drop (k + 1) := by
  rw [nth_get d l k h]; exact List.drop_eq_getElem_cons h
theorem take_nth {α : Type} (d : α) (l : List α) (k : Nat) (h : k < l.length) : l.take (k + 1) = l.take k ++ [nth d l k] := by
  rw [nth_get d l k h, List.take_succ_eq_append_getElem h]
theorem nth_drop {α : Type} (d : α) (l : List α) (i k : Nat) : nth d (l.drop i) k = nth d l (i + k) := by
  unfold nth; simp [List.getD]
theorem nth_cons_zero {α : Type} (d x : α) (l : List α) : nth d (x :: l) 0 = x := rfl
theorem nth_cons_succ {α : Type} (d x : α) (l : List α) (k : Nat) : nth d (x :: l) (k + 1) = nth d l k := by simp [nth, List.getD]
theorem nth_append_left {α : Type} (d : α) (l r : List α) (k : Nat) (h : k < l.length) : nth d (l ++ r) k = nth d l k := by
  unfold nth; simp [List.getD, List.getElem?_append_left h]
theorem nth_append_len {α : Type} (d : α) (l r : List α) (x : α) : nth d (l ++ x :: r) l.length = x := by
  unfold nth; simp [List.getD]

theorem dr2 (w : World) (a b : Nat) : ∃ m, (w.drewN a).drewN b = w.drewN m := ⟨_, World.drewN_drewN _ _ _⟩
theorem ret_int {k : IntKind} {a b : Int} (h : a = b) : Ending.returned (.int k a) = .returned (.int k b) := by rw [h]
theorem ret2_int {v : Value} {k : IntKind} {a b : Int} (h : a = b) : Ending.returned (.tuple #[v, .int k a]) = .returned (.tuple #[v, .int k b]) := by rw [h]
theorem ret_bool {a b : Bool} (h : a = b) : Ending.returned (.bool a) = .returned (.bool b) := by rw [h]

/-- The cells of the blocks of S are as they were. -/
def Keep (S : Nat → Prop) (w w' : World) : Prop := ∀ b o, S b → w'.cell? ⟨b, o, none⟩ = w.cell? ⟨b, o, none⟩
/-- Blocks below B; blocks from L on, below B. -/
def Lt (B : Nat) : Nat → Prop := fun b => b < B
def Btw (L B : Nat) : Nat → Prop := fun b => L ≤ b ∧ b < B
section
variable {S S' : Nat → Prop} {w w' w'' : World} {B : Nat}
theorem Keep.refl : Keep S w w := fun _ _ _ => rfl
theorem Keep.trans (h : Keep S w w') (k : Keep S w' w'') : Keep S w w'' := fun b o hb => (k b o hb).trans (h b o hb)
theorem Keep.sub (h : Keep S' w w') (hs : ∀ b, S b → S' b) : Keep S w w' := fun b o hb => h b o (hs b hb)
theorem Keep.drewN (h : Keep S w w') (n : Nat) : Keep S w (w'.drewN n) := h
theorem Keep.drew (h : Keep S w w') : Keep S w w'.drew := h
theorem keep_below (h : Below B w w') (hs : ∀ b, S b → b < B) : Keep S w w' := fun b o hb => h.cell (p := ⟨b, o, none⟩) (hs b hb)
theorem keep_back {w0 w1 : World} (h : Below B w w0) (k : Below B w w1) (hs : ∀ b, S b → b < B) : Keep S w0 w1 := fun b o hb => (k.cell (p := ⟨b, o, none⟩) (hs b hb)).trans (h.cell (p := ⟨b, o, none⟩) (hs b hb)).symm
theorem keep_alloc (hs : ∀ b, S b → b < w.heap.size) (o : Obj) : Keep S w (w.alloc o) := fun b i hb => World.cell?_alloc_lt w o ⟨b, i, none⟩ (hs b hb)
theorem keep_setCell {p : Addr} (hs : ¬ S p.block) (u : Value) : Keep S w (w.setCell p u) :=
  fun b i hb => World.cell?_setCell_other w p ⟨b, i, none⟩ u (fun e => hs (by rw [e]; exact hb))
theorem keep_grown {row : Option Nat} (h : w.grownBy w' row) (hs : ∀ b, S b → b < w.heap.size) (hr : ∀ g, row = some g → ¬ S g) : Keep S w w' :=
  fun b i hb => World.cell?_of_block (a := ⟨b, i, none⟩) (h.block b (hs b hb) (fun e => hr b e.symm hb))
end

/-- The shape of a row of the call's own that holds something. -/
theorem own_form {w : World} {base e size : Nat} {v : Value} {n : Nat} {xs : List Value} (h : w.ownsRow base e size v n xs) (hn : 0 < n) : ∃ g cap, v = .slice (some ⟨g, 0, none⟩) n cap ∧ base ≤ g ∧ g < w.heap.size ∧ n ≤ cap := by
  rcases h.2 with ⟨_, h0⟩ | ⟨g, cap, cur, hv, hb, hg, hnc, _⟩
  · omega
  · exact ⟨g, cap, hv, hb, (Array.getElem?_eq_some_iff.1 hg).1, hnc⟩
theorem own_form0 {w : World} {base e size : Nat} {v : Value} {n : Nat} {xs : List Value} (h : w.ownsRow base e size v n xs) : ∃ A cap, v = .slice A n cap ∧ n ≤ cap := by
  rcases h.2 with ⟨hv, h0⟩ | ⟨g, cap, cur, hv, _, _, hnc, _⟩
  · subst h0; exact ⟨none, 0, hv, Nat.le_refl _⟩
  · exact ⟨_, cap, hv, hnc⟩
theorem own_len {w : World} {base e size : Nat} {v : Value} {n : Nat} {xs : List Value} (h : w.ownsRow base e size v n xs) : xs.length = n * size := h.1
/-- What a new block of one element's cells holds: for 'append(out, x)'. -/
theorem new_cells (w : World) (cs : List Value) (t : TypeId) : ∀ j u, cs[j]? = some u → (w.alloc (.cells cs.toArray t)).cell? ((⟨w.heap.size, 0, none⟩ : Addr).add j) = some u := by
  intro j u hj
  have e : (⟨w.heap.size, 0, none⟩ : Addr).add j = ⟨w.heap.size, j, none⟩ := by unfold Addr.add; split <;> simp_all
  rw [e, World.cell?_alloc_new]
  simpa using hj

theorem grown_new {w w1 : World} {o : Obj} {row : Option Nat} (h : (w.alloc o).grownBy w1 row) : w.grownBy w1 row :=
  ⟨h.os, h.tape, h.output, by have := h.size; simp at this; omega, fun j hj hne => (h.block j (by simp; omega) hne).trans (Below.heap_alloc w o j hj)⟩
theorem grown_drewN {w w1 : World} {n : Nat} {row : Option Nat} (h : (w.drewN n).grownBy w1 row) : w.grownBy w1 row := ⟨h.os, h.tape, h.output, h.size, h.block⟩
theorem grown_trans {w w1 w2 : World} {row : Option Nat} (h : w.grownBy w1 row) (k : w1.grownBy w2 row) : w.grownBy w2 row :=
  ⟨k.os.trans h.os, k.tape.trans h.tape, k.output.trans h.output, Nat.le_trans h.size k.size, fun j hj hne => (k.block j (by have := h.size; omega) hne).trans (h.block j hj hne)⟩

theorem own_ne {w : World} {base e size : Nat} {v : Value} {n : Nat} {xs : List Value} (h : w.ownsRow base e size v n xs) {j : Nat} (hj : j < base) : some j ≠ v.ownBlock := fun e => by have := h.lt j e.symm; omega
/-- Block b holds just the value v (a variable of the call's own). -/
def One (w : World) (b : Nat) (v : Value) (t : TypeId) : Prop := w.heap[b]? = some (.cells #[v] t (0, 0))
section
variable {w w' : World} {b : Nat} {v u : Value} {t : TypeId}
theorem One.cell (h : One w b v t) : w.cell? ⟨b, 0, none⟩ = some v := by unfold One at h; simp [World.cell?, h]
theorem One.free (h : One w b v t) : w.frozen? ⟨b, 0, none⟩ = false := by unfold One at h; simp [World.frozen?, h]
theorem One.lt (h : One w b v t) : b < w.heap.size := (Array.getElem?_eq_some_iff.1 h).1
theorem One.drewN (h : One w b v t) (n : Nat) : One (w.drewN n) b v t := h
theorem One.grown {row : Option Nat} (h : One w b v t) (hg : w.grownBy w' row) (hne : some b ≠ row) : One w' b v t := (hg.block b h.lt hne).trans h
theorem One.below {B : Nat} (h : One w b v t) (hg : Below B w w') (hb : b < B) : One w' b v t := (hg.block b hb).trans h
theorem One.alloc (h : One w b v t) (o : Obj) : One (w.alloc o) b v t := (Below.heap_alloc w o b h.lt).trans h
theorem One.set_ (h : One w b v t) : One (w.setCell ⟨b, 0, none⟩ u) b u t := by unfold One at *; simp [World.setCell, Array.getElem?_modify, h]
theorem One.far (h : One w b v t) {p : Addr} (hp : b ≠ p.block) : One (w.setCell p u) b v t := (Below.heap_setCell w p u b hp).trans h
theorem One.new (w : World) (v : Value) (t : TypeId) : One (w.alloc (.cells #[v] t)) w.heap.size v t := heap_alloc_new w _
end

/-- What an element's cells say of the element: it may lead on to blocks of S. -/
abbrev Rel (α : Type) := World → (Nat → Prop) → List Value → α → Prop
def Stable {α : Type} (R : Rel α) : Prop := ∀ (w w' : World) (S S' : Nat → Prop) (cs : List Value) (x : α), (∀ b, S b → S' b) → Keep S w w' → R w S cs x → R w' S' cs x
/-- An element whose cells are plain values. -/
def Flat {α : Type} (enc : α → List Value) : Rel α := fun _ _ cs x => cs = enc x
theorem flat_stable {α : Type} (enc : α → List Value) : Stable (Flat enc) := fun _ _ _ _ _ _ _ _ h => h

/-- From address A on lie the elements of l, each in 'size' cells. -/
def RowOf {α : Type} (R : Rel α) (size : Nat) (d : α) (w : World) (S : Nat → Prop) (A : Option Addr) (l : List α) : Prop :=
  0 < l.length → ∃ b off, A = some ⟨b, off, none⟩ ∧ S b ∧ ∀ k, k < l.length → ∃ cs, cs.length = size ∧ R w S cs (nth d l k) ∧ ∀ j u, cs[j]? = some u → w.cell? ⟨b, off + k * size + j, none⟩ = some u
/-- A slice value that reads as l. -/
def IsSl {α : Type} (R : Rel α) (size : Nat) (d : α) (w : World) (S : Nat → Prop) (v : Value) (l : List α) : Prop :=
  ∃ A c, v = .slice A l.length c ∧ l.length ≤ c ∧ RowOf R size d w S A l
section
variable {α : Type} {R : Rel α} {size : Nat} {d : α} {w w' : World} {S S' : Nat → Prop} {A : Option Addr} {l : List α} {v : Value}
theorem RowOf.keep (hR : Stable R) (h : RowOf R size d w S A l) (hs : ∀ b, S b → S' b) (hk : Keep S w w') : RowOf R size d w' S' A l := by
  intro hl
  obtain ⟨b, off, e, hb, hc⟩ := h hl
  refine ⟨b, off, e, hs b hb, fun k hk' => ?_⟩
  obtain ⟨cs, h1, h2, h3⟩ := hc k hk'
  exact ⟨cs, h1, hR _ _ _ _ _ _ hs hk h2, fun j u hu => (hk b _ hb).trans (h3 j u hu)⟩
theorem RowOf.nil_ : RowOf R size d w S A [] := fun h => absurd h (by simp)
theorem RowOf.drop {c : Nat} (h : RowOf R size d w S A l) {k : Nat} (hk : k ≤ l.length) (hc : l.length ≤ c) : RowOf R size d w S (if c = k then A else A.map (·.add (k * size))) (l.drop k) := by
  intro hl
  rw [List.length_drop] at hl
  obtain ⟨b, off, rfl, hb, hcell⟩ := h (by omega)
  rw [if_neg (by omega)]
  refine ⟨b, off + k * size, ?_, hb, fun i hi => ?_⟩
  · simp only [Option.map_some, Addr.add]
    split
    · rename_i h0; rw [h0]; rfl
    · rfl
  · rw [List.length_drop] at hi
    obtain ⟨cs, h1, h2, h3⟩ := hcell (k + i) (by omega)
    refine ⟨cs, h1, by rw [nth_drop]; exact h2, fun j u hu => ?_⟩
    have := h3 j u hu
    rw [Nat.add_mul] at this
    rw [show off + k * size + i * size + j = off + (k * size + i * size) + j from by omega]
    exact this
theorem RowOf.take (h : RowOf R size d w S A l) (k : Nat) : RowOf R size d w S A (l.take k) := by
  intro hl
  rw [List.length_take] at hl
  obtain ⟨b, off, rfl, hb, hcell⟩ := h (by omega)
  refine ⟨b, off, rfl, hb, fun i hi => ?_⟩
  rw [List.length_take] at hi
  obtain ⟨cs, h1, h2, h3⟩ := hcell i (by omega)
  refine ⟨cs, h1, ?_, h3⟩
  rw [nth_get d _ i (by rw [List.length_take]; omega), List.getElem_take]
  rw [nth_get d _ i (by omega)] at h2
  exact h2
theorem IsSl.keep (hR : Stable R) (h : IsSl R size d w S v l) (hs : ∀ b, S b → S' b) (hk : Keep S w w') : IsSl R size d w' S' v l := by
  obtain ⟨A, c, e, hc, hr⟩ := h
  exact ⟨A, c, e, hc, hr.keep hR hs hk⟩
theorem IsSl.sub (hR : Stable R) (h : IsSl R size d w S v l) (hs : ∀ b, S b → S' b) : IsSl R size d w S' v l := h.keep hR hs Keep.refl
theorem IsSl.nil_ : IsSl R size d w S (.slice none 0 0) [] := ⟨none, 0, rfl, Nat.le_refl _, RowOf.nil_⟩
theorem IsSl.slice_ {n c : Nat} (h : IsSl R size d w S (.slice A n c) l) : n = l.length ∧ n ≤ c ∧ RowOf R size d w S A l := by
  obtain ⟨A', c', e, hc, hr⟩ := h
  injection e with e1 e2 e3
  subst e1 e2 e3
  exact ⟨rfl, hc, hr⟩
end
/-- The cells of flat elements, one behind the other. -/
def flats {α : Type} (enc : α → List Value) (l : List α) : List Value := l.flatMap enc
section
variable {α : Type} {enc : α → List Value} {size : Nat} {d : α} {w w' : World} {S S' : Nat → Prop} {A : Option Addr} {l : List α} {v : Value}
theorem flats_length (he : ∀ x, (enc x).length = size) (l : List α) : (flats enc l).length = l.length * size := by
  induction l with
  | nil => simp [flats]
  | cons x l ih =>
    have : flats enc (x :: l) = enc x ++ flats enc l := rfl
    rw [this, List.length_append, ih, he, List.length_cons, Nat.add_mul]; omega
theorem flats_append (l r : List α) : flats enc (l ++ r) = flats enc l ++ flats enc r := by simp [flats]
theorem flats_one (x : α) : flats enc [x] = enc x := by simp [flats]
theorem flats_get (he : ∀ x, (enc x).length = size) : ∀ (l : List α) (k j : Nat) (u : Value), k < l.length → (enc (nth d l k))[j]? = some u → (flats enc l)[k * size + j]? = some u := by
  intro l
  induction l with
  | nil => intro k j u hk; simp at hk
  | cons x l ih =>
    intro k j u hk hu
    have e : flats enc (x :: l) = enc x ++ flats enc l := rfl
    have hj : j < size := by
      have := (List.getElem?_eq_some_iff.1 hu).1
      rw [he] at this
      exact this
    cases k with
    | zero =>
      rw [nth_cons_zero] at hu
      rw [e, Nat.zero_mul, Nat.zero_add, List.getElem?_append_left (by rw [he]; exact hj)]
      exact hu
    | succ k =>
      rw [nth_cons_succ] at hu
      simp only [List.length_cons] at hk
      rw [e, List.getElem?_append_right (by rw [he, Nat.add_mul]; omega), he, show (k + 1) * size + j - size = k * size + j from by rw [Nat.add_mul]; omega]
      exact ih k j u (by omega) hu
/-- A row of the call's own, of flat elements, as a slice that reads as l. -/
theorem IsSl.own {base e n : Nat} (he : ∀ x, (enc x).length = size) (h : w.ownsRow base e size v n (flats enc l)) (hsz : 0 < size) : IsSl (Flat enc) size d w (Btw base w.heap.size) v l := by
  have hlen : l.length = n := by
    have h1 := h.1
    rw [flats_length he] at h1
    exact Nat.eq_of_mul_eq_mul_right hsz h1
  subst hlen
  rcases h.2 with ⟨rfl, h0⟩ | ⟨g, cap, cur, rfl, hb, hg, hnc, _, hcs, htake⟩
  · have : l = [] := List.eq_nil_of_length_eq_zero h0
    subst this
    exact IsSl.nil_
  · refine ⟨_, _, rfl, hnc, fun _ => ⟨g, 0, rfl, ⟨hb, (Array.getElem?_eq_some_iff.1 hg).1⟩, fun k hk => ⟨enc (nth d l k), he _, rfl, fun j u hu => ?_⟩⟩⟩
    have hj : j < size := by
      have := (List.getElem?_eq_some_iff.1 hu).1
      rw [he] at this
      exact this
    have hx := flats_get he l k j u hk hu
    have hlt : k * size + j < l.length * size := by
      have : (k + 1) * size ≤ l.length * size := Nat.mul_le_mul_right _ hk
      rw [Nat.add_mul] at this
      omega
    rw [cell_of_row w g _ cur e (0, 0) hg, Nat.zero_add]
    rw [← htake, List.getElem?_take, if_pos hlt] at hx
    simpa using hx
end
/-- A block of flat elements, as a slice that reads as l. -/
theorem IsSl.block {α : Type} {enc : α → List Value} {size : Nat} {d : α} {w : World} {S : Nat → Prop} {l : List α} {g c n : Nat} {cs : Array Value} {e : TypeId} {fr : Nat × Nat} (he : ∀ x, (enc x).length = size) (hg : w.heap[g]? = some (.cells cs e fr))
    (hcs : cs.toList = flats enc l) (hn : n = l.length) (hc : n ≤ c) (hS : S g) : IsSl (Flat enc) size d w S (.slice (some ⟨g, 0, none⟩) n c) l := by
  subst hn
  refine ⟨_, _, rfl, hc, fun _ => ⟨g, 0, rfl, hS, fun k hk => ⟨enc (nth d l k), he _, rfl, fun j u hu => ?_⟩⟩⟩
  rw [cell_of_row w g _ cs e fr hg, Nat.zero_add]
  have := flats_get he l k j u hk hu
  rw [← hcs] at this
  simpa using this

/-- A slice type t of elements of type e, each of 'size' cells and 'bytes' bytes, written by enc. -/
structure Elem (P : Program) (t e size bytes : Nat) {α : Type} (enc : α → List Value) : Prop where
  u : P.underlying t = some (.slice e)
  info : ∃ z, (P.info? e).map (fun i => (i.zero, i.size, i.bytes)) = some (some z, size, bytes) ∧ z.cells.size = size
  hsz : 0 < size
  hby : 0 < bytes
  len : ∀ x, (enc x).length = size
  one : ∀ x, ∀ u ∈ enc x, u.oneCell' = true
/-- 'append(out, x)', out nil or the call's own. -/
theorem wpList_append_one {P : Program} {w : World} {ops : Array Oper} {rest : List Oper} {o : Oper} {a : Act} {Q : Exit → Act → World → Prop} {t e size bytes : Nat} {α : Type} {enc : α → List Value}
    (E : Elem P t e size bytes enc) (hg : o.guard = none) (s y : Operand) (hop : o.op = Op.call { callee := Callee.builtin Builtin.append, args := #[s, y], argTypes := #[t, t] })
    (base : Nat) (v : Value) (n : Nat) (l : List α) (x : α) (hs : a.eval s = v) (hown : w.ownsRow base e size v n (flats enc l)) (hy : a.eval y = .slice (some ⟨w.heap.size, 0, none⟩) 1 1)
    (hb : (n + 1) * bytes ≤ 140737488355328) (hbase : base ≤ w.heap.size)
    (hK : ∀ A cap w', w'.ownsRow base e size (.slice A (n + 1) cap) (n + 1) (flats enc (l ++ [x])) → w.grownBy w' v.ownBlock → wpList P ops Q rest (a.put o.dst (.slice A (n + 1) cap)) w') :
    wpList P ops Q (o :: rest) a (w.alloc (.cells (enc x).toArray e)) := by
  obtain ⟨z, hinfo, hz⟩ := E.info
  obtain ⟨i0, hi, hz0, hz1, hz2⟩ := info_parts hinfo
  have hm : n + 1 ≤ maxLen := by
    have := Nat.mul_le_mul_left (n + 1) E.hby
    unfold maxLen; omega
  refine wpList_append_own _ hg s y t hop base e i0 z size bytes E.u hi hz0 hz1 hz2 hz E.hsz v n (flats enc l) hs (hown.alloc _) ⟨w.heap.size, 0, none⟩ 1 1 (enc x) hy (by rw [E.len]; omega) (new_cells w (enc x) e) (E.one x) hm hb (by simp; omega) ?_
  intro v' w1 hown1 hgrow _
  obtain ⟨A, cap, rfl, _⟩ := own_form0 hown1
  exact hK A cap w1 (by rw [flats_append, flats_one]; exact hown1) (grown_new hgrow)

end Go.Proofs.Ytolpgblegbahgaa
