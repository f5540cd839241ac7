/- scantlinglaw39.like says yes of a list and itself; scantlinglaw39.lives says yes. -/
import Derived.Test.YtobklchhlfhpjaaWRefMaps
import Derived.Test.YtobklchhlfhpjaaPart2
namespace Go.Proofs.Ytobklchhlfhpjaa
open Go.RowKit

set_option maxRecDepth 100000 in
set_option maxHeartbeats 800000 in
theorem like_same (w : World) (S : Nat → Prop) (v1 v2 : Value) (l : List Pt) (hn : l.length ≤ 140737488355328) (h1 : IsParts w S v1 l) (h2 : IsParts w S v2 l) :
    Calls Try.prog 8 #[v1, v2] w fun e w' => e = .returned (.bool true) ∧ ∃ m, w' = w.drewN m := by
  obtain ⟨A, c, rfl, hc, hra⟩ := h1
  obtain ⟨B, d, rfl, hd, hrb⟩ := h2
  generalize hna : l.length = n at *
  have HA := Lib.hid hna
  clear hna
  go_enter Try.func8, Try.ntmps8
  go_wp2_with fail
  go_loopw [5] (fun i wr => ∃ k : Nat, i = .int .i64 k ∧ k ≤ n ∧ ∃ m, wr = w.drewN m) (fun i _ => n - (intOf i).toNat)
  case atStart => exact ⟨0, rfl, by omega, 0, rfl⟩
  case round =>
    obtain ⟨k, rfl, hk, m, rfl⟩ := hrel
    by_cases hlt : k < n
    · obtain ⟨ba, oa, rfl, hba, hca⟩ := parts_cells hra (by rw [HA.out]; omega)
      obtain ⟨a0, a1, a2⟩ := hca k (by rw [HA.out]; exact hlt)
      obtain ⟨bb, ob, rfl, hbb, hcb⟩ := parts_cells hrb (by rw [HA.out]; omega)
      obtain ⟨b0, b1, b2⟩ := hcb k (by rw [HA.out]; exact hlt)
      clear hca hcb
      go_wp2_with fail
      go_quiet (fail)
      go_wp2_with fail
      go_roundw
      case rel => exact ⟨k + 1, by go_num, by omega, by first | exact ⟨_, rfl⟩ | exact dr2 _ _ _⟩
      case measure => simp [intOf]; omega
    · go_wp2
      go_ret
      exact ⟨rfl, _, rfl⟩

def exA : List Mp := [⟨5, 9, 0⟩, ⟨6, 10, 0⟩]
def exB : List Mp := [⟨6, 10, 0⟩, ⟨7, 11, 0⟩]
theorem ex_err : mapsErr exA exB = 0 := by simp [mapsErr, exA, exB, chk, chkFrom]
theorem ex_res : mapsRes exA exB = [⟨3, 5, 1⟩, ⟨1, 6, 1⟩, ⟨4, 7, 1⟩] := by
  rw [mapsRes_yes (by simp [exA, chk, chkFrom]) (by simp [exB, chk, chkFrom])]
  unfold partsOf exA exB
  rw [keys_lt _ _ _ _ (by decide), keys_eq _ _ _ _ rfl, keys_nil_left]
  simp [glue, addP]

set_option maxRecDepth 100000 in
set_option maxHeartbeats 800000 in
theorem lives39 (w : World) : Calls Try.prog 5 #[] w fun e w' => e = .returned (.bool true) ∧ Below w.heap.size w w' := by
  have hW : Below w.heap.size w ((w.alloc (.cells #[.int .i64 5, .int .i64 9, .int .i64 0, .int .i64 6, .int .i64 10, .int .i64 0] 43)).alloc (.cells #[.int .i64 6, .int .i64 10, .int .i64 0, .int .i64 7, .int .i64 11, .int .i64 0] 43)) :=
    ((Below.refl _ _).alloc (Nat.le_refl _) _).alloc (by simp) _
  have hm := proMaps ((w.alloc (.cells #[.int .i64 5, .int .i64 9, .int .i64 0, .int .i64 6, .int .i64 10, .int .i64 0] 43)).alloc (.cells #[.int .i64 6, .int .i64 10, .int .i64 0, .int .i64 7, .int .i64 11, .int .i64 0] 43))
    (Lt (w.heap.size + 2)) (.slice (some ⟨w.heap.size, 0, none⟩) 2 2) (.slice (some ⟨w.heap.size + 1, 0, none⟩) 2 2) exA exB (fun b hb => by simp [Lt] at *; omega)
    (IsSl.block Mp.enc_len (heap_alloc2_old w _ _) rfl rfl (by omega) (by simp [Lt])) (IsSl.block Mp.enc_len (heap_alloc2_new w _ _) rfl rfl (by omega) (by simp [Lt])) (by simp [exA, exB])
  rw [ex_err, ex_res] at hm
  have HM := Lib.hid hm
  clear hm
  go_enter Try.func5, Try.ntmps5
  go_wp2_with (go_at_call 11; refine HM.out.mono ?_; rintro e w3 ⟨v3, rfl, ⟨A3, c3, rfl, hc3, hr3⟩, hB3⟩; obtain ⟨b3, o3, rfl, hb3, hcc⟩ := parts_cells hr3 (by simp); have q0 := hcc 0 (by simp); have q1 := hcc 1 (by simp); have q2 := hcc 2 (by simp); simp [nth] at q0 q1 q2; obtain ⟨q00, q01, q02⟩ := q0; obtain ⟨q10, q11, q12⟩ := q1; obtain ⟨q20, q21, q22⟩ := q2; clear hcc hr3)
  go_ret
  exact ⟨rfl, hW.trans (hB3.mono (by simp; omega))⟩
theorem mapsRes_len (a b : List Mp) : (mapsRes a b).length ≤ a.length + b.length := by
  unfold mapsRes
  split
  · have h1 := glue_len (keys a b) []
    have h2 := keys_len _ a b (Nat.le_refl _)
    unfold partsOf
    simp at h1
    omega
  · simp

end Go.Proofs.Ytobklchhlfhpjaa
