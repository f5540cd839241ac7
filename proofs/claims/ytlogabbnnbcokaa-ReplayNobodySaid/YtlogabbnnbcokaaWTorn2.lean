/- replay.Torn at no image. Condition: the slices are within the reach. -/
import Derived.Test.YtlogabbnnbcokaaWTorn
namespace Go.Proofs.Ytlogabbnnbcokaa
open Go.RowKit Go.Shelf
attribute [local go_sem] Oper.semAt_some

set_option maxRecDepth 100000 in
set_option maxHeartbeats 3200000 in
theorem torn_nil (w : World) (S : Nat → Prop) (v : Value) (l : List Wr) (n k : Int) (hS : ∀ b, S b → b < w.heap.size) (hl : IsWrs w S v l) (hnl : l.length ≤ 1099511627776) :
    Calls Try.prog 13 #[.pointer none, v, .int .i64 n, .int .i64 k] w fun e w' => e = .returned (.pointer none) ∧ Below w.heap.size w w' := by
  have hap := apply_nil w S v l n hS hl hnl
  obtain ⟨A, c, rfl, hc, hr⟩ := hl
  obtain ⟨V, hV⟩ := wrs_cells hr
  have hV : WrsIs w S A l V := hV
  obtain ⟨m, hm, hml⟩ := withinN_nat n l.length
  have hwi := fun (w' : World) => within_any w' n (l.length : Int)
  rw [hm] at hwi
  have HWI := Lib.hid hwi
  have HAP := Lib.hid hap
  clear hwi hap hm
  by_cases h1 : m = l.length
  · have hb1 : ((m : Int) == (l.length : Int)) = true := by simp [h1]
    clear h1 hV hr
    generalize l.length = nl at *
    go_enter Try.func13, Try.ntmps13
    go_wp2_with (first
      | (go_at_call 21; refine (HWI.out _).mono ?_; rintro e w' ⟨rfl, rfl⟩)
      | (go_at_call 9; refine HAP.out.mono ?_; rintro e w3 ⟨rfl, hB3⟩))
    go_ret
    exact ⟨rfl, hB3⟩
  · have hmlt : m < l.length := by omega
    obtain ⟨lb, lo, rfl, hSl, hat⟩ := hV (by omega)
    have hmi : (m : Int) < (l.length : Int) := by omega
    have hb1 : ((m : Int) == (l.length : Int)) = false := by simp; omega
    have HAT := Lib.hid (fun w' (hB : Below w.heap.size w w') => (hat.keep (w' := w') hSl (keep_below hB hS)) m hmlt)
    have hslt := hS lb hSl
    clear hat hr hV
    generalize nth wr0 l m = x at *
    by_cases h2 : x.bytes.length = 256
    · have hb2 : ((x.bytes.length : Int) != 256) = false := by rw [h2]; rfl
      clear h1 h2
      generalize x.bytes.length = xl at *
      go_enter Try.func13, Try.ntmps13
      go_wp2_with (first
        | (go_at_call 21; refine (HWI.out _).mono ?_; rintro e w' ⟨rfl, rfl⟩)
        | (go_at_call 9; refine HAP.out.mono ?_; rintro e w3 ⟨rfl, hB3⟩; obtain ⟨c0, c1, _, _⟩ := HAT.out _ hB3; have hlt3 : lb < w3.heap.size := (by have := hB3.size; omega))
        | (go_at_call 23; refine (read_nil _ _).mono ?_; rintro e w4 ⟨rfl, rfl⟩))
      go_ret
      exact ⟨rfl, hB3⟩
    · have hb2 : ((x.bytes.length : Int) != 256) = true := by simp; omega
      have hb3 : ((x.bytes.length : Int) == 256) = false := by simp; omega
      clear h1 h2
      generalize x.bytes.length = xl at *
      generalize l.length = nl at *
      go_enter Try.func13, Try.ntmps13
      go_wp2_with (first
        | (go_at_call 21; refine (HWI.out _).mono ?_; rintro e w' ⟨rfl, rfl⟩)
        | (go_at_call 9; refine HAP.out.mono ?_; rintro e w3 ⟨rfl, hB3⟩; obtain ⟨c0, c1, _, _⟩ := HAT.out _ hB3))
      go_ret
      exact ⟨rfl, hB3⟩
end Go.Proofs.Ytlogabbnnbcokaa
