/- slices.EqualFunc at devices, pool.Same, scantlingref18.Same: whether two pools are the same. Condition: no slice is longer than the reach. -/
import Derived.Test.YtlanffolgkpmkaaWSame
namespace Go.Proofs.Ytlanffolgkpmkaa
open Go.RowKit

/-- Device k of a row, by value. -/
abbrev devV (d : Dev) (A : Option Addr) (c : Nat) : Value := .agg #[.int .i64 d.id, .int .i64 d.tx, .int .i64 d.made, .int .i64 d.snapped, .slice A d.maps.length c]
abbrev devBox (d : Dev) (A : Option Addr) (c : Nat) : Obj := .cells #[.int .i64 d.id, .int .i64 d.tx, .int .i64 d.made, .int .i64 d.snapped, .slice A d.maps.length c] 35

set_option maxRecDepth 100000 in
set_option maxHeartbeats 1600000 in
theorem eqDevs_any (w : World) (S1 S2 : Nat → Prop) (v1 v2 : Value) (a b : List Dev) (hS1 : ∀ b, S1 b → b < w.heap.size) (hS2 : ∀ b, S2 b → b < w.heap.size) (h1 : IsDevs w S1 v1 a) (h2 : IsDevs w S2 v2 b) (hn : a.length ≤ 1099511627776) (hm : ∀ k, k < a.length → (nth dev0 a k).maps.length ≤ 140737488355328) :
    Calls Try.prog 33 #[v1, v2, .func (.func 34) #[] #[]] w fun e w' => e = .returned (.bool (decide (a = b))) ∧ Below w.heap.size w w' := by
  obtain ⟨A, c, rfl, hc, hra⟩ := h1
  obtain ⟨B, d, rfl, hd, hrb⟩ := h2
  by_cases hl : b.length = a.length
  · rw [hl]
    generalize hna : a.length = n at *
    have HA := Lib.hid hna
    have HL := Lib.hid hl
    have HM := Lib.hid hm
    clear hna hl hc hd hm
    go_enter Try.func33, Try.ntmps33
    go_wp2_with fail
    go_loopw [17] (fun i wr => ∃ k : Nat, i = .int .i64 k ∧ k ≤ n ∧ (∀ j, j < k → nth dev0 a j = nth dev0 b j) ∧ Below w.heap.size w wr) (fun i _ => n - (intOf i).toNat)
    case atStart => exact ⟨0, rfl, by omega, fun j hj => absurd hj (by omega), Below.refl _ _⟩
    case round =>
      obtain ⟨k, rfl, hk, hsm, hB⟩ := hrel
      have HS := Lib.hid hsm
      clear hsm
      have hsz := hB.size
      by_cases hlt : k < n
      · obtain ⟨ba, oa, rfl, hba, hca⟩ := devs_cells (hra.keep rdev_stable (fun _ h => h) (keep_below hB hS1)) (by rw [HA.out]; omega)
        obtain ⟨a0, a1, a2, a3, Aa, ca, a4, hca', hra'⟩ := hca k (by rw [HA.out]; exact hlt)
        obtain ⟨bb, ob, rfl, hbb, hcb⟩ := devs_cells (hrb.keep rdev_stable (fun _ h => h) (keep_below hB hS2)) (by rw [HL.out]; omega)
        obtain ⟨b0, b1, b2, b3, Ab, cb, b4, hcb', hrb'⟩ := hcb k (by rw [HL.out]; exact hlt)
        have hmk := HM.out k hlt
        have hba2 : ba < wr.heap.size := Nat.lt_of_lt_of_le (hS1 _ hba) hsz
        have hbb2 : bb < wr.heap.size := Nat.lt_of_lt_of_le (hS2 _ hbb) hsz
        have hB2 : Below wr.heap.size wr ((wr.alloc (devBox (nth dev0 a k) Aa ca)).alloc (devBox (nth dev0 b k) Ab cb)) := ((Below.refl _ _).alloc (Nat.le_refl _) _).alloc (by simp) _
        have hsame := same_any ((wr.alloc (devBox (nth dev0 a k) Aa ca)).alloc (devBox (nth dev0 b k) Ab cb)) S1 S2 (devV (nth dev0 a k) Aa ca) (devV (nth dev0 b k) Ab cb) (nth dev0 a k) (nth dev0 b k) (fun b hb => by have := hS1 b hb; simp; omega) (fun b hb => by have := hS2 b hb; simp; omega)
          ⟨Aa, ca, rfl, hca', hra'.keep rmp_stable (fun _ h => h) (keep_below hB2 (fun b hb => by have := hS1 b hb; omega))⟩ ⟨Ab, cb, rfl, hcb', hrb'.keep rmp_stable (fun _ h => h) (keep_below hB2 (fun b hb => by have := hS2 b hb; omega))⟩ hmk
        have hB3 : Below w.heap.size w ((wr.alloc (devBox (nth dev0 a k) Aa ca)).alloc (devBox (nth dev0 b k) Ab cb)) := hB.trans (hB2.mono hsz)
        dsimp only [devV, devBox] at hsame hB3
        have HSM := Lib.hid hsame
        clear hca hcb hsame hra' hrb' hca' hcb'
        by_cases hx : nth dev0 a k = nth dev0 b k
        · have hS2 : ∀ j, j < k + 1 → nth dev0 a j = nth dev0 b j := fun j hj => by
            by_cases e : j = k
            · rw [e]; exact hx
            · exact HS.out j (by omega)
          have HS2 := Lib.hid hS2
          have hxb : decide (nth dev0 a k = nth dev0 b k) = true := decide_eq_true hx
          rw [hxb] at HSM
          clear hx hS2 HS hxb
          generalize nth dev0 a k = x1 at *
          generalize nth dev0 b k = x2 at *
          go_wp2_with (go_at_call 34; refine HSM.out.mono ?_; rintro e w2 ⟨rfl, hB4⟩)
          go_roundw
          case rel => exact ⟨k + 1, by go_num, by omega, HS2.out, hB3.trans (hB4.mono (by simp; omega))⟩
          case measure => simp [intOf]; omega
        · have hne : a ≠ b := fun e => hx (by rw [e])
          have HE := Lib.hid (decide_eq_false hne)
          have hxb : decide (nth dev0 a k = nth dev0 b k) = false := decide_eq_false hx
          rw [hxb] at HSM
          clear hne HS hx hxb
          generalize nth dev0 a k = x1 at *
          generalize nth dev0 b k = x2 at *
          go_wp2_with (go_at_call 34; refine HSM.out.mono ?_; rintro e w2 ⟨rfl, hB4⟩)
          refine bodyPost_ret (results_tmp rfl _ _ _) rfl ?_
          exact ⟨by rw [HE.out]; rfl, hB3.trans (hB4.mono (by simp; omega))⟩
      · have he : a = b := eq_of_nth dev0 (by rw [HA.out, HL.out]) (fun j hj => HS.out j (by rw [HA.out] at hj; omega))
        have HE := Lib.hid (decide_eq_true he)
        clear he HS
        go_wp2_with fail
        go_ret
        exact ⟨by rw [HE.out]; rfl, hB⟩
  · have hne : a ≠ b := fun e => hl (by rw [e])
    have HE := Lib.hid (decide_eq_false hne)
    have hl2 : ¬ a.length = b.length := fun e => hl e.symm
    clear hne
    generalize a.length = n1 at *
    generalize b.length = n2 at *
    go_enter Try.func33, Try.ntmps33
    go_wp2_with fail
    go_ret
    exact ⟨by rw [HE.out]; rfl, Below.refl _ _⟩
end Go.Proofs.Ytlanffolgkpmkaa
