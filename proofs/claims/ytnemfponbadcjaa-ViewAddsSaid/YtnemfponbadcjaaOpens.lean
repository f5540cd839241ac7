/- What the readings of this program's types tell. No condition. -/
import Derived.Test.YtnemfponbadcjaaProg
import Derived.Test.YtnemfponbadcjaaOpen
namespace Go.Proofs.Ytnemfponbadcjaa
open Go.RowKit
theorem list3 {α : Type} {l : List α} (h : l.length = 3) : ∃ a b c, l = [a, b, c] := by
  match l, h with
  | [a, b, c], _ => exact ⟨a, b, c, rfl⟩
theorem opens_mp : Opens Try.prog 54 RMp Mp.ok :=
  (opens_ints Try.underlying54 (by kernel_rfl) (by kernel_rfl) (by
    intro i f h
    match i, h with
    | 0, h => simp at h; subst h; exact Try.underlying3
    | 1, h => simp at h; subst h; exact Try.underlying3
    | 2, h => simp at h; subst h; exact Try.underlying3
    | i + 3, h => simp at h)).mono (by
      rintro w S cs ns ⟨rfl, hl⟩ hn
      obtain ⟨a, b, c, rfl⟩ := list3 (by simpa using hl)
      exact ⟨⟨a, b, c⟩, rfl, hn a (by simp), hn b (by simp), hn c (by simp)⟩)
def MapsOk (l : List Mp) : Prop := (∀ m ∈ l, m.ok) ∧ l.length * 24 ≤ reachBytes
theorem MapsOk.len {l : List Mp} (h : MapsOk l) : l.length ≤ 5864062014805 := by have := h.2; unfold reachBytes at this; omega
theorem opens_maps : Opens Try.prog 50 (RSl RMp 3 mp0) MapsOk :=
  opens_slice mp0 Try.underlying50 (by kernel_rfl) (by omega) (by kernel_rfl) opens_mp
/-- What an argument's reading tells. -/
theorem Opens.arg {α : Type} {P : Program} {t : TypeId} {R : Rel α} {ok : α → Prop} (h : Opens P t R ok) {H : Type} {enc : TypeId × Value → H} {w : World} {base : Nat} {spare : Nat → Bool} {held : Bool} {v : Value} {d : DataW H} {p : List MemPlace}
    (ht : DataW.Trod enc P w base spare held t v d p) (hw : Weighs P t d) : ∃ a, R w (Lt w.heap.size) v.cells.toList a ∧ ok a := by
  obtain ⟨n, hn⟩ := ht
  exact h H enc w base spare held n _ _ hn hw
theorem weighs_of {H : Type} {P : Program} {ts : List TypeId} {ds : List (DataW H)} (h : (DataW.weightsEach P ts ds).all (· ≤ reachBytes) = true) {i : Nat} {t : TypeId} {d : DataW H} (ht : ts[i]? = some t) (hd : ds[i]? = some d) : Weighs P t d :=
  fun x hx => by simpa using List.all_eq_true.1 h x (weightsEach_mem ht hd hx)
end Go.Proofs.Ytnemfponbadcjaa
