/- What the readings of devices and pools tell. No condition. -/
import Derived.Test.YtnemfponbadcjaaOpens
import Derived.Test.YtnemfponbadcjaaPool
namespace Go.Proofs.Ytnemfponbadcjaa
open Go.RowKit
theorem MapsOk.dev {l : List Mp} (h : MapsOk l) : (∀ m ∈ l, m.ok) ∧ l.length ≤ 5864062014805 := ⟨h.1, h.len⟩
theorem opens_dev : Opens Try.prog 52 RDev Dev.ok :=
  (opens_four (ti := 3) Try.underlying52 (by kernel_rfl) (by kernel_rfl) rfl rfl rfl rfl rfl Try.underlying3 opens_maps).mono (by
    rintro w S cs ⟨a, b, c, d, l⟩ ⟨v, rfl, v', e, A, c', rfl, hc, hr⟩ ⟨o1, o2, o3, o4, o5⟩
    cases e
    exact ⟨⟨a, b, c, d, l⟩, ⟨A, c', rfl, hc, hr⟩, o1, o2, o3, o4, o5.1, o5.len⟩)
def DevsOk (l : List Dev) : Prop := (∀ d ∈ l, d.ok) ∧ l.length * 56 ≤ reachBytes
theorem DevsOk.len {l : List Dev} (h : DevsOk l) : l.length ≤ 5864062014805 := by have := h.2; unfold reachBytes at this; omega
theorem opens_devs : Opens Try.prog 22 (RSl RDev 5 dev0) DevsOk :=
  opens_slice dev0 Try.underlying22 (by kernel_rfl) (by omega) (by kernel_rfl) opens_dev
/-- The cells of a pool by value. -/
def RPool : Rel Pool := fun w S cs p => ∃ A c, cs = [.int .i64 p.tx, .int .i64 p.time, .int .i64 p.unit, .int .i64 p.data, .slice A p.devs.length c] ∧ p.devs.length ≤ c ∧ DevRow w S A p.devs
theorem opens_pool : Opens Try.prog 24 RPool Pool.ok :=
  (opens_four (ti := 3) Try.underlying24 (by kernel_rfl) (by kernel_rfl) rfl rfl rfl rfl rfl Try.underlying3 opens_devs).mono (by
    rintro w S cs ⟨a, b, c, d, l⟩ ⟨v, rfl, v', e, A, c', rfl, hc, hr⟩ ⟨o1, o2, o3, o4, o5⟩
    cases e
    exact ⟨⟨a, b, c, d, l⟩, ⟨A, c', rfl, hc, hr⟩, o1, o2, o3, o4, o5.1, o5.len⟩)
theorem RPool.is {w : World} {S : Nat → Prop} {cs : Array Value} {p : Pool} (h : RPool w S cs.toList p) : IsPool w S (.agg cs) p := by
  obtain ⟨A, c, e, hc, hr⟩ := h
  exact ⟨A, c, by rw [← e], hc, hr⟩
end Go.Proofs.Ytnemfponbadcjaa
