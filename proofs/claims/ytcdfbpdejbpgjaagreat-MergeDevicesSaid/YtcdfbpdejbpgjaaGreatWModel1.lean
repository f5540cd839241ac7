/- model.place, fresh, add, create. Condition: the pool may be, and lies in memory of the call's own. -/
import Derived.Test.YtcdfbpdejbpgjaaGreatOwnPool
import Derived.Test.YtcdfbpdejbpgjaaGreatModelP
import Derived.Test.YtcdfbpdejbpgjaaGreatWSrchD
import Derived.Test.YtcdfbpdejbpgjaaGreatWInsD
import Derived.Test.YtcdfbpdejbpgjaaGreatRegT
namespace Go.Proofs.YtcdfbpdejbpgjaaGreat
open Go.RowKit
attribute [local go_sem] Oper.semAt_some

theorem pool_len {p : Pool} (h : poolChk p = 0) : p.devs.length ≤ 4096 := by
  obtain ⟨_, h2, _⟩ := poolChk_parts h
  unfold sizeB at h2
  simp only [decide_eq_true_eq] at h2
  exact h2.1
theorem place_any (w : World) (base g : Nat) (p : Pool) (id : Int) (h : OwnP w base g p) (hpc : poolChk p = 0) :
    Calls Tryz.prog 74 #[.pointer (some ⟨g, 0, none⟩), .int .i64 id] w fun e w' => e = .returned (.tuple #[.int .i64 (dpos p id : Nat), .bool (dhas p id)]) ∧ Below w.heap.size w w' := by
  obtain ⟨A, c, M, h1, h2, h3, h4⟩ := h
  have hsr := srchD_any w (Btw base w.heap.size) _ p.devs id (fun b hb => hb.2) (h3.isl (fun b h1 h2 => ⟨h1, h2⟩)) (by have := pool_len hpc; omega) (incK_devs hpc)
  unfold SrchD at hsr
  obtain ⟨x0, x1, x2, x3, x4⟩ := h1.cells
  have HS := Lib.hid hsr
  clear hsr h3 h4 h1
  unfold dpos dhas
  generalize posK Dev.id id p.devs = k at *
  generalize hasK Dev.id id p.devs = b at *
  go_enter Tryz.func74, Tryz.ntmps74
  go_wp2_with (go_at_call 89; refine HS.out.mono ?_; rintro e w' ⟨rfl, hB⟩)
  go_ret2
  exact ⟨rfl, hB⟩
theorem fresh_any (w : World) (base g : Nat) (p : Pool) (id : Int) (h : OwnP w base g p) (hpc : poolChk p = 0) :
    Calls Tryz.prog 72 #[.pointer (some ⟨g, 0, none⟩), .int .i64 id] w fun e w' => e = .returned (.int .i64 (freshE p id)) ∧ Below w.heap.size w w' := by
  have hpl := Lib.hid (place_any w base g p id h hpc)
  clear h
  by_cases hr : id < 0 ∨ 16777215 < id
  · have he : freshE p id = 2 := by unfold freshE; rw [if_pos hr]
    rw [he]
    by_cases h1 : id < 0
    · go_enter Tryz.func72, Tryz.ntmps72
      go_wp2_with fail
      go_ret
      exact ⟨rfl, Below.refl _ _⟩
    · have h2 : 16777215 < id := by omega
      have h1' : decide (id < 0) = false := by simpa using h1
      go_enter Tryz.func72, Tryz.ntmps72
      go_wp2_with fail
      go_ret
      exact ⟨rfl, Below.refl _ _⟩
  · have h1 : 0 ≤ id := by omega
    have h2 : id ≤ 16777215 := by omega
    have h1' : decide (id < 0) = false := by simpa using h1
    have h2' : decide (16777215 < id) = false := by simpa using h2
    cases hb : dhas p id with
    | true =>
      have he : freshE p id = 17 := by unfold freshE; rw [if_neg hr, if_pos hb]
      rw [he]
      rw [hb] at hpl
      clear hr
      go_enter Tryz.func72, Tryz.ntmps72
      go_wp2_with (go_at_call 74; refine hpl.out.mono ?_; rintro e w' ⟨rfl, hB⟩)
      go_ret
      exact ⟨rfl, hB⟩
    | false =>
      have he : freshE p id = 0 := by unfold freshE; rw [if_neg hr, if_neg (by simp [hb])]
      rw [he]
      rw [hb] at hpl
      clear hr
      go_enter Tryz.func72, Tryz.ntmps72
      go_wp2_with (go_at_call 74; refine hpl.out.mono ?_; rintro e w' ⟨rfl, hB⟩)
      go_ret
      exact ⟨rfl, hB⟩
end Go.Proofs.YtcdfbpdejbpgjaaGreat
