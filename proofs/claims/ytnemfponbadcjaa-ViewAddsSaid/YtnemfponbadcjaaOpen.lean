/- From an argument's reading to the words of Base: slices of structs of integers, nested slices, lengths within the reach. No condition: for any program. -/
import Derived.Test.YtnemfponbadcjaaMap
import Derived.Deep.Slices
import Derived.Deep.Fields
import Derived.ChangeSame
import Derived.SizedLaws
import Derived.OpenShut
namespace Go.Proofs.Ytnemfponbadcjaa
open Go.RowKit Go.ChangeShapes Go.WideShapes Go.Deep

/-- Nothing that the datum holds is longer than the reach. -/
def Weighs {H : Type} (P : Program) (t : TypeId) (d : DataW H) : Prop := ∀ x ∈ d.weights P t, x ≤ reachBytes

theorem weightsAll_mem {H : Type} {P : Program} {e : TypeId} {d : DataW H} {x : Nat} : ∀ {l : List (DataW H)}, d ∈ l → x ∈ d.weights P e → x ∈ DataW.weightsAll P e l := by
  intro l
  induction l with
  | nil => intro h; cases h
  | cons a l ih =>
    intro h hx
    rw [DataW.weightsAll, List.mem_append]
    rcases List.mem_cons.1 h with rfl | h
    · exact .inl hx
    · exact .inr (ih h hx)
theorem weightsEach_mem {H : Type} {P : Program} {d : DataW H} {t : TypeId} {x : Nat} : ∀ {ts : List TypeId} {l : List (DataW H)} {i : Nat}, ts[i]? = some t → l[i]? = some d → x ∈ d.weights P t → x ∈ DataW.weightsEach P ts l := by
  intro ts
  induction ts with
  | nil => intro l i h; simp at h
  | cons a ts ih =>
    intro l i h hl hx
    cases l with
    | nil => simp at hl
    | cons b l =>
      rw [DataW.weightsEach, List.mem_append]
      cases i with
      | zero =>
        simp at h hl
        subst h hl
        exact .inl hx
      | succ i =>
        simp at h hl
        exact .inr (ih h hl hx)

/-- What the reading of a value of type t tells of its cells. -/
def Opens {α : Type} (P : Program) (t : TypeId) (R : Rel α) (ok : α → Prop) : Prop :=
  ∀ (H : Type) (enc : TypeId × Value → H) (w : World) (base : Nat) (spare : Nat → Bool) (held : Bool) (n : Nat) (cs : List Value) (y : DataW H × List MemPlace),
    DataW.trod enc P w base spare held n t cs = some y → Weighs P t y.1 → ∃ a, R w (Lt w.heap.size) cs a ∧ ok a

theorem in64_of_wf {n : Int} (h : (Lit.int .i64 n).wf = true) : In64 n := by
  have := bounds_i64 h
  unfold In64
  omega

/-- A slice as a relation on its one cell. -/
def RSl {α : Type} (R : Rel α) (size : Nat) (d : α) : Rel (List α) := fun w S cs l => ∃ v, cs = [v] ∧ IsSl R size d w S v l
theorem rsl_stable {α : Type} {R : Rel α} {size : Nat} {d : α} (h : Stable R) : Stable (RSl R size d) := by
  rintro w w' S S' cs l hs hk ⟨v, e, hv⟩
  exact ⟨v, e, hv.keep h hs hk⟩

theorem opens_slice {α : Type} {P : Program} {t e : TypeId} {R : Rel α} {ok : α → Prop} {size bytes : Nat} (d : α) (ht : P.underlying t = some (.slice e)) (hC : P.cellsOf e = size) (hsz : 0 < size) (hb : P.bytesOf e = bytes) (h : Opens P e R ok) :
    Opens P t (RSl R size d) (fun l => (∀ a ∈ l, ok a) ∧ l.length * bytes ≤ reachBytes) := by
  intro H enc w base spare held n cs y hy hw
  rcases open_slice ht hy with ⟨rfl, rfl⟩ | ⟨a, len, cap, m, n', D, Pl, rfl, _, hl, _, hm, rfl, hi⟩
  · exact ⟨[], ⟨_, rfl, IsSl.nil_⟩, by simp, by simp⟩
  · have hlm : len ≤ m := by rw [hm]; split <;> omega
    have hmem : ∀ i, i < len → D i ∈ (List.range len).map D := fun i hi => List.mem_map.2 ⟨i, List.mem_range.2 hi, rfl⟩
    have hwe : ∀ i, i < len → Weighs P e (D i) := by
      intro i hi x hx
      refine hw x ?_
      simp only [DataW.weights, ht]
      exact List.mem_cons_of_mem _ (List.mem_append_left _ (weightsAll_mem (hmem i hi) hx))
    have hlen : len * bytes ≤ reachBytes := by
      have := hw (((List.range len).map D).length + ((List.range (m - len)).map fun j => D (len + j)).length |>.mul (P.bytesOf e)) (by
        simp only [DataW.weights, ht]
        exact List.mem_cons_self)
      simp only [List.length_map, List.length_range, hb] at this
      exact Nat.le_trans (Nat.mul_le_mul_right _ (by omega)) this
    have hx : ∀ i, i < len → ∃ x : α, ∃ cs', w.cells? base (a.add (i * size)) size = some cs' ∧ R w (Lt w.heap.size) cs' x ∧ ok x := by
      intro i hil
      obtain ⟨cs', h1, h2⟩ := hi i (by omega)
      rw [hC] at h1
      obtain ⟨x, hx1, hx2⟩ := h H enc w base spare held n' cs' _ h2 (hwe i hil)
      exact ⟨x, cs', h1, hx1, hx2⟩
    haveI : Inhabited α := ⟨d⟩
    obtain ⟨f, hf⟩ := choose_lt hx
    refine ⟨(List.range len).map f, ⟨_, rfl, some a, cap, by simp, by simpa using hl, ?_⟩, ?_, by simpa using hlen⟩
    · intro h0
      simp only [List.length_map, List.length_range] at h0
      obtain ⟨cs0, h1, _, _⟩ := hf 0 h0
      obtain ⟨_, hl0, hc0⟩ := World.cells?_some h1
      have hcell : w.cell? (a.add (0 * size)) = cs0[0]? := by
        have := hc0 0 hsz
        simpa [Addr.add] using this
      obtain ⟨u, hu⟩ : ∃ u, cs0[0]? = some u := ⟨cs0[0]'(by omega), List.getElem?_eq_getElem (by omega)⟩
      rw [hu] at hcell
      have hcell' : w.cell? a = some u := by simpa [Addr.add] using hcell
      obtain ⟨b, off, spot⟩ := a
      obtain rfl : spot = none := World.cell?_spot hcell'
      refine ⟨b, off, rfl, World.block_lt_of_cell? w _ hcell', fun k hk => ?_⟩
      simp only [List.length_map, List.length_range] at hk
      obtain ⟨cs', g1, g2, _⟩ := hf k hk
      obtain ⟨_, g3, g4⟩ := World.cells?_some g1
      refine ⟨cs', g3, ?_, fun j u hu => ?_⟩
      · rw [nth_get d _ k (by simpa using hk)]
        simpa using g2
      · have hj : j < size := by
          have := (List.getElem?_eq_some_iff.1 hu).1
          omega
        have := g4 j hj
        rw [hu, add_add] at this
        have e1 : (⟨b, off, none⟩ : Addr).add (k * size + j) = ⟨b, off + k * size + j, none⟩ := by
          unfold Addr.add
          split
          · rename_i h0
            have : off = off + k * size + j := by omega
            rw [← this]
          · simp only [Addr.mk.injEq, and_true, true_and]; omega
        rw [e1] at this
        exact this
    · intro x hx
      obtain ⟨i, hi, rfl⟩ := List.mem_map.1 hx
      obtain ⟨_, _, _, g⟩ := hf i (List.mem_range.1 hi)
      exact g

/-- A struct of one-cell fields: each field's own reading. -/
theorem struct_fields {H : Type} {enc : TypeId × Value → H} {P : Program} {w : World} {base : Nat} {spare : Nat → Bool} {held : Bool} {n : Nat} {t : TypeId} {fs : Array Field} {cs : List Value} {y : DataW H × List MemPlace}
    (hs : P.underlying t = some (.struct fs)) (hone : oneCellFields P fs = true) (hC : P.cellsOf t = fs.size) (h : DataW.trod enc P w base spare held n t cs = some y) (hw : Weighs P t y.1) :
    cs.length = fs.size ∧ ∀ (i : Nat) (f : Field), fs[i]? = some f → ∃ u m z, cs[i]? = some u ∧ DataW.trod enc P w base spare held m f.type [u] = some z ∧ Weighs P f.type z.1 := by
  obtain ⟨xs, m, _, rfl, hlen, hxl, hf⟩ := DataW.trod_struct hs h
  rw [hC] at hlen
  refine ⟨hlen, fun i f hi => ?_⟩
  obtain ⟨ho, hk⟩ := hone_of hone i f hi
  have hil : i < fs.size := (Array.getElem?_eq_some_iff.1 hi).1
  have h1 := hf i f hi
  have hu : cs[i]? = some (cs[i]'(by omega)) := List.getElem?_eq_getElem (by omega)
  have hx : xs[i]? = some (xs[i]'(by omega)) := List.getElem?_eq_getElem (by omega)
  have hone' : (cs.drop i).take 1 = [cs[i]'(by omega)] := by
    rw [List.drop_eq_getElem_cons (by omega)]
    rfl
  rw [ho, hk, hone', hx] at h1
  refine ⟨_, m, _, hu, h1, fun x hxw => hw x ?_⟩
  simp only [DataW.weights, hs]
  refine weightsEach_mem (i := i) (t := f.type) (d := (xs[i]'(by omega)).1) ?_ ?_ hxw
  · rw [List.getElem?_map]
    have : fs.toList[i]? = some f := by simpa using hi
    rw [this]; rfl
  · rw [List.getElem?_map, hx]; rfl
theorem field_int {H : Type} {enc : TypeId × Value → H} {P : Program} {w : World} {base : Nat} {spare : Nat → Bool} {held : Bool} {n : Nat} {t : TypeId} {u : Value} {y : DataW H × List MemPlace} (ht : P.underlying t = some (.int .i64))
    (h : DataW.trod enc P w base spare held n t [u] = some y) : ∃ k, u = .int .i64 k ∧ In64 k := by
  obtain ⟨k, e, _, hw⟩ := DataW.trod_int ht h
  simp at e
  exact ⟨k, e, in64_of_wf hw⟩
/-- A struct of integers. -/
theorem opens_ints {P : Program} {t : TypeId} {fs : Array Field} (hs : P.underlying t = some (.struct fs)) (hone : oneCellFields P fs = true) (hC : P.cellsOf t = fs.size) (hf : ∀ (i : Nat) (f : Field), fs[i]? = some f → P.underlying f.type = some (.int .i64)) :
    Opens P t (fun _ _ cs (ns : List Int) => cs = ns.map (Value.int .i64) ∧ ns.length = fs.size) (fun ns => ∀ n ∈ ns, In64 n) := by
  intro H enc w base spare held n cs y hy hw
  obtain ⟨hlen, hx⟩ := struct_fields hs hone hC hy hw
  have hg : ∀ i, i < fs.size → ∃ k : Int, cs[i]? = some (.int .i64 k) ∧ In64 k := by
    intro i hi
    have hfi : fs[i]? = some fs[i] := by simp [hi]
    obtain ⟨u, m, z, hu, hz, _⟩ := hx i _ hfi
    obtain ⟨k, rfl, hk⟩ := field_int (hf i _ hfi) hz
    exact ⟨k, hu, hk⟩
  obtain ⟨f, hf'⟩ := choose_lt hg
  refine ⟨(List.range fs.size).map f, ⟨?_, by simp⟩, ?_⟩
  · apply List.ext_getElem?
    intro i
    by_cases hi : i < fs.size
    · rw [(hf' i hi).1]; simp [hi]
    · rw [List.getElem?_eq_none (by omega)]; simp [hi]
  · intro k hk
    obtain ⟨i, hi, rfl⟩ := List.mem_map.1 hk
    exact (hf' i (List.mem_range.1 hi)).2
theorem Opens.mono {α β : Type} {P : Program} {t : TypeId} {R : Rel α} {ok : α → Prop} {R' : Rel β} {ok' : β → Prop} (h : Opens P t R ok) (f : ∀ w S cs a, R w S cs a → ok a → ∃ b, R' w S cs b ∧ ok' b) : Opens P t R' ok' := by
  intro H enc w base spare held n cs y hy hw
  obtain ⟨a, ha, hoa⟩ := h H enc w base spare held n cs y hy hw
  exact f _ _ _ _ ha hoa
/-- A struct of four integers and a slice. -/
theorem opens_four {α : Type} {P : Program} {t ti ts : TypeId} {f0 f1 f2 f3 f4 : Field} {R : Rel (List α)} {ok : List α → Prop} (hs : P.underlying t = some (.struct #[f0, f1, f2, f3, f4])) (hone : oneCellFields P #[f0, f1, f2, f3, f4] = true) (hC : P.cellsOf t = 5)
    (h0 : f0.type = ti) (h1 : f1.type = ti) (h2 : f2.type = ti) (h3 : f3.type = ti) (h4 : f4.type = ts) (hi : P.underlying ti = some (.int .i64)) (h : Opens P ts R ok) :
    Opens P t (fun w S cs (x : Int × Int × Int × Int × List α) => ∃ v, cs = [.int .i64 x.1, .int .i64 x.2.1, .int .i64 x.2.2.1, .int .i64 x.2.2.2.1, v] ∧ R w S [v] x.2.2.2.2)
      (fun x => In64 x.1 ∧ In64 x.2.1 ∧ In64 x.2.2.1 ∧ In64 x.2.2.2.1 ∧ ok x.2.2.2.2) := by
  intro H enc w base spare held n cs y hy hw
  obtain ⟨hlen, hx⟩ := struct_fields hs hone hC hy hw
  obtain ⟨u0, _, _, e0, g0, _⟩ := hx 0 f0 rfl
  obtain ⟨u1, _, _, e1, g1, _⟩ := hx 1 f1 rfl
  obtain ⟨u2, _, _, e2, g2, _⟩ := hx 2 f2 rfl
  obtain ⟨u3, _, _, e3, g3, _⟩ := hx 3 f3 rfl
  obtain ⟨u4, _, _, e4, g4, w4⟩ := hx 4 f4 rfl
  subst h0
  obtain ⟨n0, rfl, k0⟩ := field_int hi g0
  rw [h1] at g1; rw [h2] at g2; rw [h3] at g3; rw [h4] at g4 w4
  obtain ⟨n1, rfl, k1⟩ := field_int hi g1
  obtain ⟨n2, rfl, k2⟩ := field_int hi g2
  obtain ⟨n3, rfl, k3⟩ := field_int hi g3
  obtain ⟨l, hr, hok⟩ := h H enc w base spare held _ [u4] _ g4 w4
  refine ⟨(n0, n1, n2, n3, l), ⟨u4, ?_, hr⟩, k0, k1, k2, k3, hok⟩
  match cs, hlen with
  | [c0, c1, c2, c3, c4], _ =>
    simp at e0 e1 e2 e3 e4
    subst e0 e1 e2 e3 e4
    rfl
end Go.Proofs.Ytnemfponbadcjaa
