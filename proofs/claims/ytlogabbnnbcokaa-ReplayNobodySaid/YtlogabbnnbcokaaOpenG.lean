/- What the readings of an argument tell: the word itself, bytes and integers. No condition: for any program. -/
import Derived.Test.YtlogabbnnbcokaaOpen
import Derived.Test.YtlogabbnnbcokaaBytes
import Derived.Test.YtlogabbnnbcokaaInts
namespace Go.Proofs.Ytlogabbnnbcokaa
open Go.RowKit Go.ChangeShapes Go.WideShapes Go.Deep
/-- What an argument's reading tells. -/
theorem Opens.arg {α : Type} {P : Program} {t : TypeId} {R : Rel α} {ok : α → Prop} (h : Opens P t R ok) {H : Type} {enc : TypeId × Value → H} {w : World} {base : Nat} {spare : Nat → Bool} {held : Bool} {v : Value} {d : DataW H} {p : List MemPlace}
    (ht : DataW.Trod enc P w base spare held t v d p) (hw : Weighs P t d) : ∃ a, R w (Lt w.heap.size) v.cells.toList a ∧ ok a := by
  obtain ⟨n, hn⟩ := ht
  exact h H enc w base spare held n _ _ hn hw
theorem weighs_of {H : Type} {P : Program} {ts : List TypeId} {ds : List (DataW H)} (h : (DataW.weightsEach P ts ds).all (· ≤ reachBytes) = true) {i : Nat} {t : TypeId} {d : DataW H} (ht : ts[i]? = some t) (hd : ds[i]? = some d) : Weighs P t d :=
  fun x hx => by simpa using List.all_eq_true.1 h x (weightsEach_mem ht hd hx)
theorem opens_u8 {P : Program} {t : TypeId} (ht : P.underlying t = some (.int .u8)) : Opens P t (Flat encB) (fun _ => True) := by
  intro H enc w base spare held n cs y hy _
  obtain ⟨k, rfl, _, hw⟩ := DataW.trod_int ht hy
  have hb := bounds_u8 hw
  refine ⟨UInt8.ofNat k.toNat, ?_, trivial⟩
  show _ = [Value.int .u8 _]
  rw [UInt8.toNat_ofNat', Nat.mod_eq_of_lt (by omega), Int.toNat_of_nonneg hb.1]
theorem opens_i64 {P : Program} {t : TypeId} (ht : P.underlying t = some (.int .i64)) : Opens P t (Flat fun n : Int => [.int .i64 n]) In64 := by
  intro H enc w base spare held n cs y hy _
  obtain ⟨k, rfl, _, hw⟩ := DataW.trod_int ht hy
  exact ⟨k, rfl, in64_of_wf hw⟩
theorem opens_bytes {P : Program} {t e : TypeId} (ht : P.underlying t = some (.slice e)) (he : P.underlying e = some (.int .u8)) (hC : P.cellsOf e = 1) (hb : P.bytesOf e = 1) :
    Opens P t (RSl (Flat encB) 1 (0 : UInt8)) (fun l => (∀ a ∈ l, True) ∧ l.length * 1 ≤ reachBytes) := opens_slice 0 ht hC (by omega) hb (opens_u8 he)
theorem opens_intl {P : Program} {t e : TypeId} (ht : P.underlying t = some (.slice e)) (he : P.underlying e = some (.int .i64)) (hC : P.cellsOf e = 1) (hb : P.bytesOf e = 8) :
    Opens P t (RSl (Flat fun n : Int => [.int .i64 n]) 1 (0 : Int)) (fun l => (∀ a ∈ l, In64 a) ∧ l.length * 8 ≤ reachBytes) := opens_slice 0 ht hC (by omega) hb (opens_i64 he)
/-- A struct of an integer and a slice. -/
theorem opens_two {α : Type} {P : Program} {t ti ts : TypeId} {f0 f1 : Field} {R : Rel (List α)} {ok : List α → Prop} (hs : P.underlying t = some (.struct #[f0, f1])) (hone : oneCellFields P #[f0, f1] = true) (hC : P.cellsOf t = 2)
    (h0 : f0.type = ti) (h1 : f1.type = ts) (hi : P.underlying ti = some (.int .i64)) (h : Opens P ts R ok) :
    Opens P t (fun w S cs (x : Int × List α) => ∃ v, cs = [.int .i64 x.1, v] ∧ R w S [v] x.2) (fun x => In64 x.1 ∧ ok x.2) := by
  intro H enc w base spare held n cs y hy hw
  obtain ⟨hlen, hx⟩ := struct_fields hs hone hC hy hw
  obtain ⟨u0, _, _, e0, g0, _⟩ := hx 0 f0 rfl
  obtain ⟨u1, _, _, e1, g1, w1⟩ := hx 1 f1 rfl
  subst h0
  obtain ⟨n0, rfl, k0⟩ := field_int hi g0
  rw [h1] at g1 w1
  obtain ⟨l, hr, hok⟩ := h H enc w base spare held _ [u1] _ g1 w1
  refine ⟨(n0, l), ⟨u1, ?_, hr⟩, k0, hok⟩
  match cs, hlen with
  | [c0, c1], _ =>
    simp at e0 e1
    subst e0 e1
    rfl
end Go.Proofs.Ytlogabbnnbcokaa
