/- What the readings of writes, of bytes and of integers tell. No condition. -/
import Derived.Test.YtlogabbnnbcokaaProg
import Derived.Test.YtlogabbnnbcokaaOpenG
import Derived.Test.YtlogabbnnbcokaaWrites
namespace Go.Proofs.Ytlogabbnnbcokaa
open Go.RowKit
theorem opens_b : Opens Try.prog 22 (RSl (Flat encB) 1 (0 : UInt8)) (fun l => (∀ a ∈ l, True) ∧ l.length * 1 ≤ reachBytes) := opens_bytes Try.underlying22 Try.underlying5 (by kernel_rfl) (by kernel_rfl)
theorem opens_is : Opens Try.prog 24 (RSl (Flat fun n : Int => [.int .i64 n]) 1 (0 : Int)) (fun l => (∀ a ∈ l, In64 a) ∧ l.length * 8 ≤ reachBytes) := opens_intl Try.underlying24 Try.underlying3 (by kernel_rfl) (by kernel_rfl)
theorem opens_wr : Opens Try.prog 30 RWr okW :=
  (opens_two Try.underlying30 (by kernel_rfl) (by kernel_rfl) rfl rfl Try.underlying3 opens_b).mono (by
    rintro w S cs ⟨a, l⟩ ⟨v, rfl, v', e, A, c', rfl, hc, hr⟩ ⟨o1, o2⟩
    cases e
    refine ⟨⟨a, l⟩, ⟨A, c', rfl, hc, hr⟩, ?_⟩
    have h2 : l.length * 1 ≤ reachBytes := o2.2
    unfold reachBytes at h2
    show l.length ≤ 140737488355328
    omega)
theorem opens_wrs : Opens Try.prog 23 (RSl RWr 2 wr0) (fun l => (∀ a ∈ l, okW a) ∧ l.length * 32 ≤ reachBytes) := opens_slice wr0 Try.underlying23 (by kernel_rfl) (by omega) (by kernel_rfl) opens_wr
end Go.Proofs.Ytlogabbnnbcokaa
