/- slices.Equal at mappings, scantlingref18.SameMaps: whether two lists are the same. Condition: no slice is longer than the reach. -/
import Derived.Test.YtlanffolgkpmkaaWSameI
import Derived.Test.YtlanffolgkpmkaaWRef18
namespace Go.Proofs.Ytlanffolgkpmkaa
open Go.RowKit

deriving instance DecidableEq for Mp
deriving instance DecidableEq for Dev
deriving instance DecidableEq for Pool
theorem mp_ext {x y : Mp} (h1 : x.v = y.v) (h2 : x.b = y.b) (h3 : x.t = y.t) : x = y := by cases x; cases y; simp_all

set_option maxHeartbeats 800000 in
theorem eqMaps_any (w : World) (S1 S2 : Nat → Prop) (v1 v2 : Value) (a b : List Mp) (h1 : IsMaps w S1 v1 a) (h2 : IsMaps w S2 v2 b) (hn : a.length ≤ 140737488355328) :
    Calls Try.prog 44 #[v1, v2] w fun e w' => e = .returned (.bool (decide (a = b))) ∧ ∃ m, w' = w.drewN m := by
  obtain ⟨A, c, rfl, hc, hra⟩ := h1
  obtain ⟨B, d, rfl, hd, hrb⟩ := h2
  by_cases hl : b.length = a.length
  · rw [hl]
    generalize hna : a.length = n at *
    have HA := Lib.hid hna
    have HL := Lib.hid hl
    clear hna hl hc hd
    go_enter Try.func44, Try.ntmps44
    go_wp2_with fail
    go_loopw [13] (fun i wr => ∃ k : Nat, i = .int .i64 k ∧ k ≤ n ∧ (∀ j, j < k → nth mp0 a j = nth mp0 b j) ∧ ∃ m, wr = w.drewN m) (fun i _ => n - (intOf i).toNat)
    case atStart => exact ⟨0, rfl, by omega, fun j hj => absurd hj (by omega), 0, rfl⟩
    case round =>
      obtain ⟨k, rfl, hk, hsm, m, rfl⟩ := hrel
      have HS := Lib.hid hsm
      clear hsm
      by_cases hlt : k < n
      · obtain ⟨ba, oa, rfl, hba, hca⟩ := maps_cells hra (by rw [HA.out]; omega)
        obtain ⟨a0, a1, a2⟩ := hca k (by rw [HA.out]; exact hlt)
        obtain ⟨bb, ob, rfl, hbb, hcb⟩ := maps_cells hrb (by rw [HL.out]; omega)
        obtain ⟨b0, b1, b2⟩ := hcb k (by rw [HL.out]; exact hlt)
        clear hca hcb
        by_cases hx : nth mp0 a k = nth mp0 b k
        · have hS2 : ∀ j, j < k + 1 → nth mp0 a j = nth mp0 b j := fun j hj => by
            by_cases e : j = k
            · rw [e]; exact hx
            · exact HS.out j (by omega)
          have HS2 := Lib.hid hS2
          rw [← hx] at b0 b1 b2
          clear hx hS2 HS
          generalize nth mp0 a k = x1 at *
          go_wp2_with fail
          go_quiet (fail)
          go_wp2_with fail
          go_roundw
          case rel => exact ⟨k + 1, by go_num, by omega, HS2.out, by first | exact ⟨_, rfl⟩ | exact dr2 _ _ _⟩
          case measure => simp [intOf]; omega
        · have hne : a ≠ b := fun e => hx (by rw [e])
          have HE := Lib.hid (decide_eq_false hne)
          have hx3 : ¬ ((nth mp0 a k).v = (nth mp0 b k).v ∧ (nth mp0 a k).b = (nth mp0 b k).b ∧ (nth mp0 a k).t = (nth mp0 b k).t) := fun h => hx (mp_ext h.1 h.2.1 h.2.2)
          clear hne HS hx
          generalize nth mp0 a k = x1 at *
          generalize nth mp0 b k = x2 at *
          by_cases g1 : x1.v = x2.v
          · by_cases g2 : x1.b = x2.b
            · have g3 : ¬ x1.t = x2.t := fun h => hx3 ⟨g1, g2, h⟩
              rw [← g1] at b0
              rw [← g2] at b1
              clear hx3 g1 g2
              go_wp2_with fail
              go_quiet (fail)
              go_wp2_with fail
              refine bodyPost_ret (results_tmp rfl _ _ _) rfl ?_
              exact ⟨by rw [HE.out]; rfl, dr2 _ _ _⟩
            · rw [← g1] at b0
              clear hx3 g1
              go_wp2_with fail
              go_quiet (fail)
              go_wp2_with fail
              refine bodyPost_ret (results_tmp rfl _ _ _) rfl ?_
              exact ⟨by rw [HE.out]; rfl, dr2 _ _ _⟩
          · clear hx3
            go_wp2_with fail
            go_quiet (fail)
            go_wp2_with fail
            refine bodyPost_ret (results_tmp rfl _ _ _) rfl ?_
            exact ⟨by rw [HE.out]; rfl, dr2 _ _ _⟩
      · have he : a = b := eq_of_nth mp0 (by rw [HA.out, HL.out]) (fun j hj => HS.out j (by rw [HA.out] at hj; omega))
        have HE := Lib.hid (decide_eq_true he)
        clear he HS
        go_wp2_with fail
        go_ret
        exact ⟨by rw [HE.out]; rfl, _, rfl⟩
  · have hne : a ≠ b := fun e => hl (by rw [e])
    have HE := Lib.hid (decide_eq_false hne)
    have hl2 : ¬ a.length = b.length := fun e => hl e.symm
    clear hne
    generalize a.length = n1 at *
    generalize b.length = n2 at *
    go_enter Try.func44, Try.ntmps44
    go_wp2_with fail
    go_ret
    exact ⟨by rw [HE.out]; rfl, 0, rfl⟩
set_option maxHeartbeats 800000 in
theorem rsameMaps_any (w : World) (S1 S2 : Nat → Prop) (v1 v2 : Value) (a b : List Mp) (h1 : IsMaps w S1 v1 a) (h2 : IsMaps w S2 v2 b) (hn : a.length ≤ 140737488355328) :
    Calls Try.prog 38 #[v1, v2] w fun e w' => e = .returned (.bool (decide (a = b))) ∧ ∃ m, w' = w.drewN m := by
  obtain ⟨A, c, rfl, hc, hra⟩ := h1
  obtain ⟨B, d, rfl, hd, hrb⟩ := h2
  by_cases hl : b.length = a.length
  · rw [hl]
    generalize hna : a.length = n at *
    have HA := Lib.hid hna
    have HL := Lib.hid hl
    clear hna hl hc hd
    go_enter Try.func38, Try.ntmps38
    go_wp2_with fail
    go_loopw [5] (fun i wr => ∃ k : Nat, i = .int .i64 k ∧ k ≤ n ∧ (∀ j, j < k → nth mp0 a j = nth mp0 b j) ∧ ∃ m, wr = w.drewN m) (fun i _ => n - (intOf i).toNat)
    case atStart => exact ⟨0, rfl, by omega, fun j hj => absurd hj (by omega), 0, rfl⟩
    case round =>
      obtain ⟨k, rfl, hk, hsm, m, rfl⟩ := hrel
      have HS := Lib.hid hsm
      clear hsm
      by_cases hlt : k < n
      · obtain ⟨ba, oa, rfl, hba, hca⟩ := maps_cells hra (by rw [HA.out]; omega)
        obtain ⟨a0, a1, a2⟩ := hca k (by rw [HA.out]; exact hlt)
        obtain ⟨bb, ob, rfl, hbb, hcb⟩ := maps_cells hrb (by rw [HL.out]; omega)
        obtain ⟨b0, b1, b2⟩ := hcb k (by rw [HL.out]; exact hlt)
        clear hca hcb
        by_cases hx : nth mp0 a k = nth mp0 b k
        · have hS2 : ∀ j, j < k + 1 → nth mp0 a j = nth mp0 b j := fun j hj => by
            by_cases e : j = k
            · rw [e]; exact hx
            · exact HS.out j (by omega)
          have HS2 := Lib.hid hS2
          rw [← hx] at b0 b1 b2
          clear hx hS2 HS
          generalize nth mp0 a k = x1 at *
          go_wp2_with fail
          go_quiet (fail)
          go_wp2_with fail
          go_roundw
          case rel => exact ⟨k + 1, by go_num, by omega, HS2.out, by first | exact ⟨_, rfl⟩ | exact dr2 _ _ _⟩
          case measure => simp [intOf]; omega
        · have hne : a ≠ b := fun e => hx (by rw [e])
          have HE := Lib.hid (decide_eq_false hne)
          have hx3 : ¬ ((nth mp0 a k).v = (nth mp0 b k).v ∧ (nth mp0 a k).b = (nth mp0 b k).b ∧ (nth mp0 a k).t = (nth mp0 b k).t) := fun h => hx (mp_ext h.1 h.2.1 h.2.2)
          clear hne HS hx
          generalize nth mp0 a k = x1 at *
          generalize nth mp0 b k = x2 at *
          by_cases g1 : x1.v = x2.v
          · by_cases g2 : x1.b = x2.b
            · have g3 : ¬ x1.t = x2.t := fun h => hx3 ⟨g1, g2, h⟩
              rw [← g1] at b0
              rw [← g2] at b1
              clear hx3 g1 g2
              go_wp2_with fail
              go_quiet (fail)
              go_wp2_with fail
              refine bodyPost_ret (results_tmp rfl _ _ _) rfl ?_
              exact ⟨by rw [HE.out]; rfl, dr2 _ _ _⟩
            · rw [← g1] at b0
              clear hx3 g1
              go_wp2_with fail
              go_quiet (fail)
              go_wp2_with fail
              refine bodyPost_ret (results_tmp rfl _ _ _) rfl ?_
              exact ⟨by rw [HE.out]; rfl, dr2 _ _ _⟩
          · clear hx3
            go_wp2_with fail
            go_quiet (fail)
            go_wp2_with fail
            refine bodyPost_ret (results_tmp rfl _ _ _) rfl ?_
            exact ⟨by rw [HE.out]; rfl, dr2 _ _ _⟩
      · have he : a = b := eq_of_nth mp0 (by rw [HA.out, HL.out]) (fun j hj => HS.out j (by rw [HA.out] at hj; omega))
        have HE := Lib.hid (decide_eq_true he)
        clear he HS
        go_wp2_with fail
        go_ret
        exact ⟨by rw [HE.out]; rfl, _, rfl⟩
  · have hne : a ≠ b := fun e => hl (by rw [e])
    have HE := Lib.hid (decide_eq_false hne)
    have hl2 : ¬ a.length = b.length := fun e => hl e.symm
    clear hne
    generalize a.length = n1 at *
    generalize b.length = n2 at *
    go_enter Try.func38, Try.ntmps38
    go_wp2_with fail
    go_ret
    exact ⟨by rw [HE.out]; rfl, 0, rfl⟩
theorem dev_ne {d e : Dev} (h : ¬ (d.id = e.id ∧ d.tx = e.tx ∧ d.made = e.made ∧ d.snapped = e.snapped ∧ d.maps = e.maps)) : d ≠ e := fun x => h (by rw [x]; simp)
theorem dev_eq {d e : Dev} (h1 : d.id = e.id) (h2 : d.tx = e.tx) (h3 : d.made = e.made) (h4 : d.snapped = e.snapped) (h5 : d.maps = e.maps) : d = e := by cases d; cases e; simp_all
/-- Two devices are the same: number for number. -/
theorem dev_dec (d e : Dev) : decide (d = e) = (decide (d.id = e.id) && (decide (d.tx = e.tx) && (decide (d.made = e.made) && (decide (d.snapped = e.snapped) && decide (d.maps = e.maps))))) := by
  cases d; cases e; simp
theorem pool_dec (d e : Pool) : decide (d = e) = (decide (d.tx = e.tx) && (decide (d.time = e.time) && (decide (d.unit = e.unit) && (decide (d.data = e.data) && decide (d.devs = e.devs))))) := by
  cases d; cases e; simp

set_option maxRecDepth 100000 in
set_option maxHeartbeats 1600000 in
theorem same_any (w : World) (S1 S2 : Nat → Prop) (v1 v2 : Value) (d e : Dev) (hS1 : ∀ b, S1 b → b < w.heap.size) (hS2 : ∀ b, S2 b → b < w.heap.size) (h1 : IsDev w S1 v1 d) (h2 : IsDev w S2 v2 e) (hn : d.maps.length ≤ 140737488355328) :
    Calls Try.prog 34 #[v1, v2] w fun x w' => x = .returned (.bool (decide (d = e))) ∧ Below w.heap.size w w' := by
  obtain ⟨A, c, rfl, hc, hra⟩ := h1
  obtain ⟨B, k, rfl, hd, hrb⟩ := h2
  have hB0 : Below w.heap.size w ((w.alloc (.cells #[.int .i64 d.id, .int .i64 d.tx, .int .i64 d.made, .int .i64 d.snapped, .slice A d.maps.length c] 35)).alloc (.cells #[.int .i64 e.id, .int .i64 e.tx, .int .i64 e.made, .int .i64 e.snapped, .slice B e.maps.length k] 35)) :=
    ((Below.refl _ _).alloc (Nat.le_refl _) _).alloc (by simp) _
  have hm := eqMaps_any ((w.alloc (.cells #[.int .i64 d.id, .int .i64 d.tx, .int .i64 d.made, .int .i64 d.snapped, .slice A d.maps.length c] 35)).alloc (.cells #[.int .i64 e.id, .int .i64 e.tx, .int .i64 e.made, .int .i64 e.snapped, .slice B e.maps.length k] 35)) S1 S2 _ _ d.maps e.maps ⟨A, c, rfl, hc, hra.keep rmp_stable (fun _ h => h) (keep_below hB0 hS1)⟩ ⟨B, k, rfl, hd, hrb.keep rmp_stable (fun _ h => h) (keep_below hB0 hS2)⟩ hn
  have HM := Lib.hid hm
  have HD := Lib.hid (dev_dec d e)
  clear hm hra hrb hn hc hd
  by_cases g1 : d.id = e.id
  · skip
    by_cases g2 : d.tx = e.tx
    · skip
      by_cases g3 : d.made = e.made
      · skip
        by_cases g4 : d.snapped = e.snapped
        · skip
          have HE : Hid (decide (d = e) = decide (d.maps = e.maps)) := Lib.hid (by rw [HD.out]; simp [g1, g2, g3, g4])
          have b1 : (d.id == e.id) = true := by simp [g1]
          have b2 : (d.tx == e.tx) = true := by simp [g2]
          have b3 : (d.made == e.made) = true := by simp [g3]
          have b4 : (d.snapped == e.snapped) = true := by simp [g4]
          clear HD g1 g2 g3 g4
          go_enter Try.func34, Try.ntmps34
          go_wp2_with (go_at_call 44; refine HM.out.mono ?_; rintro x w2 ⟨rfl, m, rfl⟩)
          go_ret
          exact ⟨by rw [HE.out]; rfl, below_drewN hB0 m⟩
        · have HE : Hid (decide (d = e) = false) := Lib.hid (by rw [HD.out]; simp [g4])
          have b1 : (d.id == e.id) = true := by simp [g1]
          have b2 : (d.tx == e.tx) = true := by simp [g2]
          have b3 : (d.made == e.made) = true := by simp [g3]
          have b4 : (d.snapped == e.snapped) = false := by simp [g4]
          clear HD HM g1 g2 g3 g4
          go_enter Try.func34, Try.ntmps34
          go_wp2
          go_ret
          exact ⟨by rw [HE.out]; rfl, hB0⟩
      · have HE : Hid (decide (d = e) = false) := Lib.hid (by rw [HD.out]; simp [g3])
        have b1 : (d.id == e.id) = true := by simp [g1]
        have b2 : (d.tx == e.tx) = true := by simp [g2]
        have b3 : (d.made == e.made) = false := by simp [g3]
        clear HD HM g1 g2 g3
        go_enter Try.func34, Try.ntmps34
        go_wp2
        go_ret
        exact ⟨by rw [HE.out]; rfl, hB0⟩
    · have HE : Hid (decide (d = e) = false) := Lib.hid (by rw [HD.out]; simp [g2])
      have b1 : (d.id == e.id) = true := by simp [g1]
      have b2 : (d.tx == e.tx) = false := by simp [g2]
      clear HD HM g1 g2
      go_enter Try.func34, Try.ntmps34
      go_wp2
      go_ret
      exact ⟨by rw [HE.out]; rfl, hB0⟩
  · have HE : Hid (decide (d = e) = false) := Lib.hid (by rw [HD.out]; simp [g1])
    have b1 : (d.id == e.id) = false := by simp [g1]
    clear HD HM g1
    go_enter Try.func34, Try.ntmps34
    go_wp2
    go_ret
    exact ⟨by rw [HE.out]; rfl, hB0⟩
set_option maxRecDepth 100000 in
set_option maxHeartbeats 1600000 in
theorem rsameDev_any (w : World) (S1 S2 : Nat → Prop) (v1 v2 : Value) (d e : Dev) (hS1 : ∀ b, S1 b → b < w.heap.size) (hS2 : ∀ b, S2 b → b < w.heap.size) (h1 : IsDev w S1 v1 d) (h2 : IsDev w S2 v2 e) (hn : d.maps.length ≤ 140737488355328) :
    Calls Try.prog 22 #[v1, v2] w fun x w' => x = .returned (.bool (decide (d = e))) ∧ Below w.heap.size w w' := by
  obtain ⟨A, c, rfl, hc, hra⟩ := h1
  obtain ⟨B, k, rfl, hd, hrb⟩ := h2
  have hB0 : Below w.heap.size w ((w.alloc (.cells #[.int .i64 d.id, .int .i64 d.tx, .int .i64 d.made, .int .i64 d.snapped, .slice A d.maps.length c] 35)).alloc (.cells #[.int .i64 e.id, .int .i64 e.tx, .int .i64 e.made, .int .i64 e.snapped, .slice B e.maps.length k] 35)) :=
    ((Below.refl _ _).alloc (Nat.le_refl _) _).alloc (by simp) _
  have hm := rsameMaps_any ((w.alloc (.cells #[.int .i64 d.id, .int .i64 d.tx, .int .i64 d.made, .int .i64 d.snapped, .slice A d.maps.length c] 35)).alloc (.cells #[.int .i64 e.id, .int .i64 e.tx, .int .i64 e.made, .int .i64 e.snapped, .slice B e.maps.length k] 35)) S1 S2 _ _ d.maps e.maps ⟨A, c, rfl, hc, hra.keep rmp_stable (fun _ h => h) (keep_below hB0 hS1)⟩ ⟨B, k, rfl, hd, hrb.keep rmp_stable (fun _ h => h) (keep_below hB0 hS2)⟩ hn
  have HM := Lib.hid hm
  have HD := Lib.hid (dev_dec d e)
  clear hm hra hrb hn hc hd
  by_cases g1 : d.id = e.id
  · skip
    by_cases g2 : d.tx = e.tx
    · skip
      by_cases g3 : d.made = e.made
      · skip
        by_cases g4 : d.snapped = e.snapped
        · skip
          have HE : Hid (decide (d = e) = decide (d.maps = e.maps)) := Lib.hid (by rw [HD.out]; simp [g1, g2, g3, g4])
          have b1 : (d.id == e.id) = true := by simp [g1]
          have b2 : (d.tx == e.tx) = true := by simp [g2]
          have b3 : (d.made == e.made) = true := by simp [g3]
          have b4 : (d.snapped == e.snapped) = true := by simp [g4]
          clear HD g1 g2 g3 g4
          go_enter Try.func22, Try.ntmps22
          go_wp2_with (go_at_call 38; refine HM.out.mono ?_; rintro x w2 ⟨rfl, m, rfl⟩)
          go_ret
          exact ⟨by rw [HE.out]; rfl, below_drewN hB0 m⟩
        · have HE : Hid (decide (d = e) = false) := Lib.hid (by rw [HD.out]; simp [g4])
          have b1 : (d.id == e.id) = true := by simp [g1]
          have b2 : (d.tx == e.tx) = true := by simp [g2]
          have b3 : (d.made == e.made) = true := by simp [g3]
          have b4 : (d.snapped == e.snapped) = false := by simp [g4]
          clear HD HM g1 g2 g3 g4
          go_enter Try.func22, Try.ntmps22
          go_wp2
          go_ret
          exact ⟨by rw [HE.out]; rfl, hB0⟩
      · have HE : Hid (decide (d = e) = false) := Lib.hid (by rw [HD.out]; simp [g3])
        have b1 : (d.id == e.id) = true := by simp [g1]
        have b2 : (d.tx == e.tx) = true := by simp [g2]
        have b3 : (d.made == e.made) = false := by simp [g3]
        clear HD HM g1 g2 g3
        go_enter Try.func22, Try.ntmps22
        go_wp2
        go_ret
        exact ⟨by rw [HE.out]; rfl, hB0⟩
    · have HE : Hid (decide (d = e) = false) := Lib.hid (by rw [HD.out]; simp [g2])
      have b1 : (d.id == e.id) = true := by simp [g1]
      have b2 : (d.tx == e.tx) = false := by simp [g2]
      clear HD HM g1 g2
      go_enter Try.func22, Try.ntmps22
      go_wp2
      go_ret
      exact ⟨by rw [HE.out]; rfl, hB0⟩
  · have HE : Hid (decide (d = e) = false) := Lib.hid (by rw [HD.out]; simp [g1])
    have b1 : (d.id == e.id) = false := by simp [g1]
    clear HD HM g1
    go_enter Try.func22, Try.ntmps22
    go_wp2
    go_ret
    exact ⟨by rw [HE.out]; rfl, hB0⟩
end Go.Proofs.Ytlanffolgkpmkaa
