/- scantlinglaw39.like says yes of a list and itself; scantlinglaw39.lives says yes. -/
import Derived.Test.YtcliakhmjghkmaaWRefMaps
namespace Go.Proofs.Ytcliakhmjghkmaa
open Go.RowKit

set_option maxRecDepth 100000 in
set_option maxHeartbeats 800000 in
theorem like_same (w : World) (S : Nat → Prop) (v1 v2 : Value) (l : List Pt) (hn : l.length ≤ 140737488355328) (h1 : IsParts w S v1 l) (h2 : IsParts w S v2 l) :
    Calls Try.prog 8 #[v1, v2] w fun e w' => e = .returned (.bool true) ∧ ∃ m, w' = w.drewN m := by
  obtain ⟨A, c, rfl, hc, hra⟩ := h1
  obtain ⟨B, d, rfl, hd, hrb⟩ := h2
  generalize hna : l.length = n at *
  have HA := Lib.hid hna
  clear hna
  go_enter Try.func8, Try.ntmps8
  go_wp2_with fail
  go_loopw [5] (fun i wr => ∃ k : Nat, i = .int .i64 k ∧ k ≤ n ∧ ∃ m, wr = w.drewN m) (fun i _ => n - (intOf i).toNat)
  case atStart => exact ⟨0, rfl, by omega, 0, rfl⟩
  case round =>
    obtain ⟨k, rfl, hk, m, rfl⟩ := hrel
    by_cases hlt : k < n
    · obtain ⟨ba, oa, rfl, hba, hca⟩ := parts_cells hra (by rw [HA.out]; omega)
      obtain ⟨a0, a1, a2⟩ := hca k (by rw [HA.out]; exact hlt)
      obtain ⟨bb, ob, rfl, hbb, hcb⟩ := parts_cells hrb (by rw [HA.out]; omega)
      obtain ⟨b0, b1, b2⟩ := hcb k (by rw [HA.out]; exact hlt)
      clear hca hcb
      go_wp2_with fail
      go_quiet (fail)
      go_wp2_with fail
      go_roundw
      case rel => exact ⟨k + 1, by go_num, by omega, by first | exact ⟨_, rfl⟩ | exact dr2 _ _ _⟩
      case measure => simp [intOf]; omega
    · go_wp2
      go_ret
      exact ⟨rfl, _, rfl⟩

theorem glue_len (ks : List (Int × Int)) : ∀ out : List Pt, (glue out ks).length ≤ out.length + ks.length := by
  induction ks with
  | nil => intro out; exact Nat.le_refl _
  | cons q ks ih =>
    intro out
    have h1 := ih (addP out q.1 q.2)
    have h2 := addP_length out q.1 q.2
    have h3 : glue out (q :: ks) = glue (addP out q.1 q.2) ks := rfl
    rw [h3, List.length_cons]
    omega
theorem keys_len : ∀ n (a b : List Mp), a.length + b.length ≤ n → (keys a b).length ≤ a.length + b.length := by
  intro n
  induction n with
  | zero =>
    intro a b h
    have ha : a = [] := List.eq_nil_of_length_eq_zero (by omega)
    subst ha
    rw [keys_nil_left]; simp
  | succ n ih =>
    intro a b h
    cases a with
    | nil => rw [keys_nil_left]; simp
    | cons x a =>
      cases b with
      | nil => rw [keys_nil_right]; simp
      | cons y b =>
        simp only [List.length_cons] at h
        rw [keys]
        split
        · have := ih a (y :: b) (by simp; omega); simp at this ⊢; omega
        · split
          · have := ih (x :: a) b (by simp; omega); simp at this ⊢; omega
          · have := ih a b (by omega); simp; omega
theorem mapsRes_len (a b : List Mp) : (mapsRes a b).length ≤ a.length + b.length := by
  unfold mapsRes
  split
  · have h1 := glue_len (keys a b) []
    have h2 := keys_len _ a b (Nat.le_refl _)
    unfold partsOf
    simp at h1
    omega
  · simp

def exA : List Mp := [⟨5, 9, 0⟩, ⟨6, 10, 0⟩]
def exB : List Mp := [⟨6, 10, 0⟩, ⟨7, 11, 0⟩]
theorem ex_err : mapsErr exA exB = 0 := by simp [mapsErr, exA, exB, chk, chkFrom]
theorem ex_res : mapsRes exA exB = [⟨3, 5, 1⟩, ⟨1, 6, 1⟩, ⟨4, 7, 1⟩] := by
  rw [mapsRes_yes (by simp [exA, chk, chkFrom]) (by simp [exB, chk, chkFrom])]
  unfold partsOf exA exB
  rw [keys_lt _ _ _ _ (by decide), keys_eq _ _ _ _ rfl, keys_nil_left]
  simp [glue, addP]

set_option maxRecDepth 100000 in
set_option maxHeartbeats 800000 in
theorem lives39 (w : World) : Calls Try.prog 5 #[] w fun e w' => e = .returned (.bool true) ∧ Below w.heap.size w w' := by
  have hW : Below w.heap.size w ((w.alloc (.cells #[.int .i64 5, .int .i64 9, .int .i64 0, .int .i64 6, .int .i64 10, .int .i64 0] 40)).alloc (.cells #[.int .i64 6, .int .i64 10, .int .i64 0, .int .i64 7, .int .i64 11, .int .i64 0] 40)) :=
    ((Below.refl _ _).alloc (Nat.le_refl _) _).alloc (by simp) _
  have hm := proMaps ((w.alloc (.cells #[.int .i64 5, .int .i64 9, .int .i64 0, .int .i64 6, .int .i64 10, .int .i64 0] 40)).alloc (.cells #[.int .i64 6, .int .i64 10, .int .i64 0, .int .i64 7, .int .i64 11, .int .i64 0] 40))
    (Lt (w.heap.size + 2)) (.slice (some ⟨w.heap.size, 0, none⟩) 2 2) (.slice (some ⟨w.heap.size + 1, 0, none⟩) 2 2) exA exB (fun b hb => by simp [Lt] at *; omega)
    (IsSl.block Mp.enc_len (heap_alloc2_old w _ _) rfl rfl (by omega) (by simp [Lt])) (IsSl.block Mp.enc_len (heap_alloc2_new w _ _) rfl rfl (by omega) (by simp [Lt])) (by simp [exA, exB])
  rw [ex_err, ex_res] at hm
  have HM := Lib.hid hm
  clear hm
  go_enter Try.func5, Try.ntmps5
  go_wp2_with (go_at_call 6; refine HM.out.mono ?_; rintro e w3 ⟨v3, rfl, ⟨A3, c3, rfl, hc3, hr3⟩, hB3⟩; obtain ⟨b3, o3, rfl, hb3, hcc⟩ := parts_cells hr3 (by simp); have q0 := hcc 0 (by simp); have q1 := hcc 1 (by simp); have q2 := hcc 2 (by simp); simp [nth] at q0 q1 q2; obtain ⟨q00, q01, q02⟩ := q0; obtain ⟨q10, q11, q12⟩ := q1; obtain ⟨q20, q21, q22⟩ := q2; clear hcc hr3)
  go_ret
  exact ⟨rfl, hW.trans (hB3.mono (by simp; omega))⟩

set_option maxRecDepth 100000 in
set_option maxHeartbeats 1600000 in
theorem deltaMaps_walk (w : World) (va vb : Value) (a b : List Mp) (ha : IsMaps w (Lt w.heap.size) va a) (hb : IsMaps w (Lt w.heap.size) vb b) (hna : a.length ≤ 140737488355328) (hnb : b.length ≤ 140737488355328) :
    Calls Try.prog 3 #[va, vb] w fun e w' => e = .returned (.bool true) ∧ Below w.heap.size w w' := by
  obtain ⟨A, c, rfl, hc, hra⟩ := ha
  obtain ⟨B, d, rfl, hd, hrb⟩ := hb
  generalize hla : a.length = n1 at *
  generalize hlb : b.length = n2 at *
  have HA := Lib.hid hla
  have HB := Lib.hid hlb
  clear hla hlb
  by_cases h1 : 2000 < n1
  · go_enter Try.func3, Try.ntmps3
    go_wp2_with (go_at_call 5; refine (lives39 _).mono ?_; rintro e w3 ⟨rfl, hB3⟩)
    go_ret
    exact ⟨rfl, hB3⟩
  · by_cases h2 : 2000 < n2
    · go_enter Try.func3, Try.ntmps3
      go_wp2_with (go_at_call 5; refine (lives39 _).mono ?_; rintro e w3 ⟨rfl, hB3⟩)
      go_ret
      exact ⟨rfl, hB3⟩
    · have ia : ∀ w', Below w.heap.size w w' → IsMaps w' (Lt w.heap.size) (.slice A n1 c) a := fun w' h => ⟨A, c, by rw [HA.out], by rw [HA.out]; exact hc, hra.keep rmp_stable (fun _ h => h) (keep_below h (fun _ h => h))⟩
      have ib : ∀ w', Below w.heap.size w w' → IsMaps w' (Lt w.heap.size) (.slice B n2 d) b := fun w' h => ⟨B, d, by rw [HB.out], by rw [HB.out]; exact hd, hrb.keep rmp_stable (fun _ h => h) (keep_below h (fun _ h => h))⟩
      have IA := Lib.hid ia
      have IB := Lib.hid ib
      clear ia ib hra hrb
      go_enter Try.func3, Try.ntmps3
      go_wp2_with fail
      refine (proMaps w (Lt w.heap.size) _ _ a b (fun _ h => h) (IA.out w (Below.refl _ _)) (IB.out w (Below.refl _ _)) (by rw [HA.out, HB.out]; omega)).mono ?_
      rintro e w1 ⟨v1, rfl, hP1, hB1⟩
      go_wp2_with fail
      refine (refMaps w1 (Lt w.heap.size) _ _ a b (fun _ h => Nat.lt_of_lt_of_le h hB1.size) (IA.out w1 hB1) (IB.out w1 hB1) (by rw [HA.out, HB.out]; omega)).mono ?_
      rintro e w2 ⟨v2, rfl, hP2, hB2⟩
      have hB12 := hB1.trans (hB2.mono hB1.size)
      have hlen : (mapsRes a b).length ≤ 140737488355328 := by have := mapsRes_len a b; rw [HA.out, HB.out] at this; omega
      have hlk := like_same w2 (Lt w2.heap.size) v1 v2 (mapsRes a b) hlen (hP1.keep rpt_stable (fun _ h => Nat.lt_of_lt_of_le h.2 hB2.size) (keep_below hB2 (fun _ h => h.2))) (hP2.sub rpt_stable (fun _ h => h.2))
      have HLK := Lib.hid hlk
      clear hlk hlen
      go_wp2_with fail
      refine HLK.out.mono ?_
      rintro e w3 ⟨rfl, dn, rfl⟩
      have hB3 := below_drewN hB12 dn
      go_wp2_with (first
        | (go_at_call 9; refine (proChk _ (Lt w.heap.size) _ a (fun _ h => Nat.lt_of_lt_of_le h hB3.size) (by rw [HA.out]; omega) (IA.out _ hB3)).mono ?_; rintro e w4 ⟨rfl, hB4⟩; have hB5 := hB3.trans (hB4.mono hB3.size))
        | (go_at_call 10; refine (refChk _ (Lt w.heap.size) _ a (by rw [HA.out]; omega) (IA.out _ hB5)).mono ?_; rintro e w6 ⟨rfl, dm, rfl⟩; have hB6 := below_drewN hB5 dm)
        | (go_at_call 5; refine (lives39 _).mono ?_; rintro e w7 ⟨rfl, hB7⟩))
      go_ret
      exact ⟨rfl, hB6.trans (hB7.mono hB6.size)⟩
end Go.Proofs.Ytcliakhmjghkmaa
