/- scantlinglaw20.lives and SizeTells say yes. Condition: the numbers fit into Go's int, and no slice is longer than the reach. -/
import Derived.Test.YtooffkhdanimbaaWSizeA
import Derived.Test.YtooffkhdanimbaaWFew
namespace Go.Proofs.Ytooffkhdanimbaa
open Go.RowKit
attribute [local go_sem] Oper.semAt_some

def exP : Pool := ⟨0, 0, 1, 0, []⟩
theorem exP_ok : exP.ok := ⟨by simp [exP, In64], by simp [exP, In64], by simp [exP, In64], by simp [exP, In64], fun d hd => by simp [exP] at hd, by simp [exP]⟩
theorem exP_base : baseN exP = 5 := by
  have h1 : ∀ t, overN 0 (maxN t true) = 1 := fun t => overN_small (by have := maxN_bound t true; omega) (by have := maxN_bound t true; omega)
  have h2 : ∀ t, nodesN t 0 = 1 := fun t => by unfold nodesN levelsN; rw [h1, levelsUp_one (by omega)]; simp [sumL]
  have h3 : poolChk exP = 0 := by decide
  have h4 : oftenN exP = 0 := by unfold oftenN refsRes; rw [if_pos h3]; rfl
  have h5 : bitsN exP.data = 0 := by simp [bitsN, exP]
  unfold baseN
  rw [if_pos h3]
  unfold baseOk
  rw [h4, h5, show exP.devs = [] from rfl]
  simp only [List.length_nil, devSum]
  rw [show ((0 : Nat) : Int) = 0 from rfl, h2, h2, h2, h2]
  omega
theorem exP_need : needN exP = 8 := by unfold needN; rw [exP_base]; simp [needB]
theorem exP_is (w : World) (S : Nat → Prop) : IsPool w S (.agg #[.int .i64 0, .int .i64 0, .int .i64 1, .int .i64 0, .slice none 0 0]) exP := ⟨none, 0, rfl, Nat.le_refl _, RowOf.nil_⟩
set_option maxHeartbeats 1600000 in
theorem lives20 (w : World) : Calls Try.prog 7 #[] w fun e w' => e = .returned (.bool true) ∧ Below w.heap.size w w' := by
  have HB := Lib.hid (fun w' => base_any w' (fun _ => False) _ exP (fun _ h => h.elim) (exP_is w' _) exP_ok)
  have HN := Lib.hid (fun w' => need_any w' (fun _ => False) _ exP (fun _ h => h.elim) (exP_is w' _) exP_ok)
  rw [exP_base] at HB
  rw [exP_need] at HN
  have hpb : PBox (w.alloc (.cells #[.int .i64 0, .int .i64 0, .int .i64 1, .int .i64 0, .slice none 0 0] 24)) w.heap.size exP none 0 0 := PBox.new w exP none 0 0
  have hk0 : Below w.heap.size w (w.alloc (.cells #[.int .i64 0, .int .i64 0, .int .i64 1, .int .i64 0, .slice none 0 0] 24)) := (Below.refl _ _).alloc (Nat.le_refl _) _
  go_enter Try.func7, Try.ntmps7
  go_wp2_with (first
    | (go_at_call 10; refine (HB.out _).mono ?_; rintro e w2 ⟨rfl, hB2⟩; have hk2 := hk0.trans (hB2.mono (by simp)); obtain ⟨x0, x1, x2, x3, x4⟩ := (hpb.below hB2 (by simp)).cells)
    | (go_at_call 12; refine (HN.out _).mono ?_; rintro e w3 ⟨rfl, hB3⟩; have hk3 := hk2.trans (hB3.mono hk2.size)))
  go_ret
  exact ⟨rfl, hk3⟩
end Go.Proofs.Ytooffkhdanimbaa
