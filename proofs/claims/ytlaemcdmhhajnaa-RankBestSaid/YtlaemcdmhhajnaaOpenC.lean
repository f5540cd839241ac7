/- What the readings of candidates tell. No condition. -/
import Derived.Test.YtlaemcdmhhajnaaOpenP
import Derived.Test.YtlaemcdmhhajnaaCand
import Derived.ChangeArms
namespace Go.Proofs.Ytlaemcdmhhajnaa
open Go.RowKit Go.ChangeShapes Go.WideShapes

/-- A struct: each field's own reading. -/
theorem struct_parts {H : Type} {enc : TypeId × Value → H} {P : Program} {w : World} {base : Nat} {spare : Nat → Bool} {held : Bool} {n : Nat} {t : TypeId} {fs : Array Field} {cs : List Value} {y : DataW H × List MemPlace}
    (hs : P.underlying t = some (.struct fs)) (h : DataW.trod enc P w base spare held n t cs = some y) (hw : Weighs P t y.1) :
    cs.length = P.cellsOf t ∧ ∀ (i : Nat) (f : Field), fs[i]? = some f → ∃ m z, DataW.trod enc P w base spare held m f.type ((cs.drop f.offset).take (P.cellsOf f.type)) = some z ∧ Weighs P f.type z.1 := by
  obtain ⟨xs, m, _, rfl, hlen, hxl, hf⟩ := DataW.trod_struct hs h
  refine ⟨hlen, fun i f hi => ?_⟩
  have hil : i < fs.size := (Array.getElem?_eq_some_iff.1 hi).1
  have h1 := hf i f hi
  have hx : xs[i]? = some (xs[i]'(by omega)) := List.getElem?_eq_getElem (by omega)
  rw [hx] at h1
  refine ⟨m, _, h1, fun x hxw => hw x ?_⟩
  simp only [DataW.weights, hs]
  refine weightsEach_mem (i := i) (t := f.type) (d := (xs[i]'(by omega)).1) ?_ ?_ hxw
  · rw [List.getElem?_map]
    have : fs.toList[i]? = some f := by simpa using hi
    rw [this]; rfl
  · rw [List.getElem?_map, hx]; rfl
theorem opens_cand_of {P : Program} {t tb ti tp : TypeId} {f0 f1 f2 f3 : Field} (hs : P.underlying t = some (.struct #[f0, f1, f2, f3])) (hC : P.cellsOf t = 8) (k0 : f0.offset = 0 ∧ f0.type = tb) (k1 : f1.offset = 1 ∧ f1.type = ti) (k2 : f2.offset = 2 ∧ f2.type = ti) (k3 : f3.offset = 3 ∧ f3.type = tp)
    (c0 : P.cellsOf tb = 1) (c1 : P.cellsOf ti = 1) (c3 : P.cellsOf tp = 5) (hb : P.underlying tb = some .bool) (hi : P.underlying ti = some (.int .i64)) (h : Opens P tp RPool Pool.ok) :
    Opens P t RCand Cand.ok := by
  intro H enc w base spare held n cs y hy hw
  obtain ⟨hlen, hx⟩ := struct_parts hs hy hw
  rw [hC] at hlen
  obtain ⟨_, z0, g0, _⟩ := hx 0 f0 rfl
  obtain ⟨_, z1, g1, _⟩ := hx 1 f1 rfl
  obtain ⟨_, z2, g2, _⟩ := hx 2 f2 rfl
  obtain ⟨_, z3, g3, w3⟩ := hx 3 f3 rfl
  rw [k0.1, k0.2, c0] at g0
  rw [k1.1, k1.2, c1] at g1
  rw [k2.1, k2.2, c1] at g2
  rw [k3.1, k3.2, c3] at g3
  rw [k3.2] at w3
  match cs, hlen with
  | [a0, a1, a2, a3, a4, a5, a6, a7], _ =>
    simp only [List.drop_zero, List.drop_succ_cons, List.take_succ_cons, List.take_zero] at g0 g1 g2 g3
    obtain ⟨b, e0, _⟩ := DataW.trod_bool hb g0
    obtain ⟨n1, e1, o1⟩ := field_int hi g1
    obtain ⟨n2, e2, o2⟩ := field_int hi g2
    obtain ⟨p, ⟨A, c, e3, hc, hr⟩, o3⟩ := h H enc w base spare held _ _ _ g3 w3
    simp at e0 e3
    obtain ⟨rfl, rfl, rfl, rfl, rfl⟩ := e3
    subst e0 e1 e2
    exact ⟨⟨b, n1, n2, p⟩, ⟨A, c, rfl, hc, hr⟩, o1, o2, o3⟩
theorem opens_cand : Opens Try.prog 26 RCand Cand.ok :=
  opens_cand_of (tb := 4) (ti := 3) (tp := 24) Try.underlying26 (by kernel_rfl) ⟨rfl, rfl⟩ ⟨rfl, rfl⟩ ⟨rfl, rfl⟩ ⟨rfl, rfl⟩ (by kernel_rfl) (by kernel_rfl) (by kernel_rfl) Try.underlying4 Try.underlying3 opens_pool
def CandsOk (l : List Cand) : Prop := (∀ c ∈ l, c.ok) ∧ l.length * 80 ≤ reachBytes
theorem CandsOk.len {l : List Cand} (h : CandsOk l) : l.length ≤ 140737488355328 := by have := h.2; unfold reachBytes at this; omega
theorem opens_cands : Opens Try.prog 28 (RSl RCand 8 cand0) CandsOk :=
  opens_slice cand0 Try.underlying28 (by kernel_rfl) (by omega) (by kernel_rfl) opens_cand
theorem RCand.is {w : World} {S : Nat → Prop} {cs : Array Value} {c : Cand} (h : RCand w S cs.toList c) : IsCand w S (.agg cs) c := by
  obtain ⟨A, n, e, hc, hr⟩ := h
  exact ⟨A, n, by rw [show cs = c.cells A n from Array.toList_inj.1 e], hc, hr⟩
end Go.Proofs.Ytlaemcdmhhajnaa
